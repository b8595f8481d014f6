/- Walks, written by my program walk.py out of the specification gover.py: each theorem says what one function returns and that it leaves memory as it was. -/
import Derived.Test.YthjgnnfonofgkaaPOver
import Derived.Test.YthjgnnfonofgkaaWghex
import Derived.Test.YthjgnnfonofgkaaWgmS
import Derived.Test.YthjgnnfonofgkaaWgnS
import Derived.Test.YthjgnnfonofgkaaWgliv
import Derived.Test.YthjgnnfonofgkaaWgmI
import Derived.Test.YthjgnnfonofgkaaWgnI
import Derived.Test.YthjgnnfonofgkaaWgmB
import Derived.Test.YthjgnnfonofgkaaWgnB
import Derived.Test.YthjgnnfonofgkaaWgov1
import Derived.Test.YthjgnnfonofgkaaFKaf
import Derived.Test.YthjgnnfonofgkaaProg
import Derived.Tactics2
import Derived.Test.YthjgnnfonofgkaaFKu
namespace Go.Proofs.Ythjgnnfonofgkaa
open Go Go.RowKit Go.FK
set_option linter.unusedVariables false
set_option linter.unusedSimpArgs false


set_option maxHeartbeats 4000000 in
set_option maxRecDepth 100000 in
theorem c_furrowlaw04_PointsOver (v_a : Value) (a : List (Int × Int)) (v_b : Value) (b : List (Int × Int)) (v_c : Value) (c : List (Int × Int)) (v_val : Value) (val : List (Int)) (w : World) (p_a : Rd w encRg v_a a) (p_b : Rd w encRg v_b b) (p_c : Rd w encRg v_c c) (p_val : Rd w encInt v_val val) {m_ml : Int} (hml : w.cell? ⟨0, 0, none⟩ = some (.int .i64 m_ml)) (ha : ∀ x ∈ a, (-2147483648 ≤ x.1 ∧ x.1 ≤ 2147483647) ∧ (-2147483648 ≤ x.2 ∧ x.2 ≤ 2147483647)) (hb2 : ∀ x ∈ b, (-2147483648 ≤ x.1 ∧ x.1 ≤ 2147483647) ∧ (-2147483648 ≤ x.2 ∧ x.2 ≤ 2147483647)) (hc2 : ∀ x ∈ c, (-2147483648 ≤ x.1 ∧ x.1 ≤ 2147483647) ∧ (-2147483648 ≤ x.2 ∧ x.2 ≤ 2147483647)) :
    Calls Try.prog 6 #[v_a, v_b, v_c, v_val] w (Ret fun v w' => v = (.bool true) ∧ Below w.heap.size w w') := by
  refine enterM (args := [v_a, v_b, v_c, v_val]) Try.func6 rfl (by kernel_rfl : _ = 104) (by kernel_rfl) ?_
  have hb := Below.refl w.heap.size w
  have hs : w.heap.size ≤ w.heap.size := Nat.le_refl _
  have in_p_a := p_a
  have in_p_b := p_b
  have in_p_c := p_c
  have in_p_val := p_val
  have ox := ofG_ok a val
  have oy := ofG_ok b val
  have oz := ofG_ok c val
  refine W_seq (W_region (L_new (fun b => .pointer (some ⟨b, 0, none⟩)) (.cells [(.bool false)].toArray 4 (0, 0)) (by kernel_rfl) (by kernel_rfl) ?_))
  intro b1 w2 hN3
  have g_x8 : w.heap.size ≤ b1 := by rw [hN3.num]; exact hs
  replace hb := hb.trans (hN3.below.mono hs)
  replace hs := Nat.le_trans hs (hN3.below.size)
  replace p_a := p_a.below hN3.below
  replace p_b := p_b.below hN3.below
  replace p_c := p_c.below hN3.below
  replace p_val := p_val.below hN3.below
  have o_x8 := hN3.here
  refine L_nil (thenQ_normal (W_seq (W_region (L_mv (L_mv (L_call 28 [v_a, v_val] (by kernel_rfl) (by kernel_rfl) (c_of v_a a v_val val _ p_a p_val (by first | exact ha | exact hb2 | exact hc2)) ?_))))))
  rintro _ w5 ⟨q4, cb8, rfl, r_q4, o_cb8, g_cb8, hB6⟩
  have ne_x8_cb8 : b1 ≠ cb8 := by have := (obj_lt o_x8); omega
  have ne_cb8_x8 := ne_x8_cb8.symm
  replace g_cb8 := Nat.le_trans hs g_cb8
  replace r_q4 := r_q4.base hs
  replace hb := hb.trans (hB6.mono hs)
  replace hs := Nat.le_trans hs (hB6.size)
  replace o_x8 := obj_below o_x8 hB6
  replace p_a := p_a.below hB6
  replace p_b := p_b.below hB6
  replace p_c := p_c.below hB6
  replace p_val := p_val.below hB6
  refine L_mv (L_mv (L_call 28 [v_b, v_val] (by kernel_rfl) (by kernel_rfl) (c_of v_b b v_val val _ p_b p_val (by first | exact ha | exact hb2 | exact hc2)) ?_))
  rintro _ w10 ⟨q9, cb13, rfl, r_q9, o_cb13, g_cb13, hB11⟩
  have ne_x8_cb13 : b1 ≠ cb13 := by have := (obj_lt o_x8); omega
  have ne_cb13_x8 := ne_x8_cb13.symm
  have ne_cb8_cb13 : cb8 ≠ cb13 := by have := (obj_lt o_cb8); omega
  have ne_cb13_cb8 := ne_cb8_cb13.symm
  replace g_cb13 := Nat.le_trans hs g_cb13
  have ap_r_q9_r_q4 := ap_call r_q9 r_q4; have ap_r_q4_r_q9 := ap_comm ap_r_q9_r_q4
  replace r_q9 := r_q9.base hs
  replace hb := hb.trans (hB11.mono hs)
  replace hs := Nat.le_trans hs (hB11.size)
  replace o_x8 := obj_below o_x8 hB11
  replace o_cb8 := obj_below o_cb8 hB11
  replace p_a := p_a.below hB11
  replace p_b := p_b.below hB11
  replace p_c := p_c.below hB11
  replace p_val := p_val.below hB11
  replace r_q4 := r_q4.below hB11
  refine L_mv (L_mv (L_call 28 [v_c, v_val] (by kernel_rfl) (by kernel_rfl) (c_of v_c c v_val val _ p_c p_val (by first | exact ha | exact hb2 | exact hc2)) ?_))
  rintro _ w15 ⟨q14, cb18, rfl, r_q14, o_cb18, g_cb18, hB16⟩
  have ne_x8_cb18 : b1 ≠ cb18 := by have := (obj_lt o_x8); omega
  have ne_cb18_x8 := ne_x8_cb18.symm
  have ne_cb8_cb18 : cb8 ≠ cb18 := by have := (obj_lt o_cb8); omega
  have ne_cb18_cb8 := ne_cb8_cb18.symm
  have ne_cb13_cb18 : cb13 ≠ cb18 := by have := (obj_lt o_cb13); omega
  have ne_cb18_cb13 := ne_cb13_cb18.symm
  replace g_cb18 := Nat.le_trans hs g_cb18
  have ap_r_q14_r_q4 := ap_call r_q14 r_q4; have ap_r_q4_r_q14 := ap_comm ap_r_q14_r_q4
  have ap_r_q14_r_q9 := ap_call r_q14 r_q9; have ap_r_q9_r_q14 := ap_comm ap_r_q14_r_q9
  replace r_q14 := r_q14.base hs
  replace hb := hb.trans (hB16.mono hs)
  replace hs := Nat.le_trans hs (hB16.size)
  replace o_x8 := obj_below o_x8 hB16
  replace o_cb8 := obj_below o_cb8 hB16
  replace o_cb13 := obj_below o_cb13 hB16
  replace p_a := p_a.below hB16
  replace p_b := p_b.below hB16
  replace p_c := p_c.below hB16
  replace p_val := p_val.below hB16
  replace r_q4 := r_q4.below hB16
  replace r_q9 := r_q9.below hB16
  refine L_as (L_as (L_as (L_nil (thenQ_normal (W_seq (W_seq (W_region (L_mv (L_run (.bool false) (by kernel_rfl) (by kernel_rfl) (L_mv (L_want (by kernel_rfl) (L_mv (L_want (by kernel_rfl) (L_run (.bool false) (by kernel_rfl) (by kernel_rfl) (L_pickF (by kernel_rfl) (L_mv (L_want (by kernel_rfl) (L_mv (L_want (by kernel_rfl) (L_run (.bool false) (by kernel_rfl) (by kernel_rfl) (L_pickF (by kernel_rfl) (L_mv (L_want (by kernel_rfl) (L_call 8 [] (by kernel_rfl) (by kernel_rfl) (c_lives  _ (gcell_below hml hb)) ?_))))))))))))))))))))))))
  rintro _ w19 ⟨rfl, hB20⟩
  replace hb := hb.trans (hB20.mono hs)
  replace hs := Nat.le_trans hs (hB20.size)
  replace o_x8 := obj_below o_x8 hB20
  replace o_cb8 := obj_below o_cb8 hB20
  replace o_cb13 := obj_below o_cb13 hB20
  replace o_cb18 := obj_below o_cb18 hB20
  replace p_a := p_a.below hB20
  replace p_b := p_b.below hB20
  replace p_c := p_c.below hB20
  replace p_val := p_val.below hB20
  replace r_q4 := r_q4.below hB20
  replace r_q9 := r_q9.below hB20
  replace r_q14 := r_q14.below hB20
  refine L_want (by kernel_rfl) (L_not true (by kernel_rfl) (L_pickF (by kernel_rfl) (L_nil (thenQ_normal (W_false (by kernel_rfl) (W_skip (thenQ_normal (W_seq (W_region (L_mv (L_mv (L_call 29 [(.pointer (some ⟨cb8, 0, none⟩)), (.pointer (some ⟨cb13, 0, none⟩))] (by kernel_rfl) (by kernel_rfl) (c_over_I cb8 q4 (ofG a val) cb13 q9 (ofG b val) _ o_cb8 r_q4.rd o_cb13 r_q9.rd (by first | exact ox.rise | exact oy.rise | exact oz.rise | exact overF_rise _ _ | exact turnAll_rise _ _) (by first | exact ox.rise | exact oy.rise | exact oz.rise | exact overF_rise _ _ | exact turnAll_rise _ _)) ?_))))))))))))
  rintro _ w23 ⟨q22, cb26, rfl, r_q22, o_cb26, g_cb26, hB24⟩
  have ne_x8_cb26 : b1 ≠ cb26 := by have := (obj_lt o_x8); omega
  have ne_cb26_x8 := ne_x8_cb26.symm
  have ne_cb8_cb26 : cb8 ≠ cb26 := by have := (obj_lt o_cb8); omega
  have ne_cb26_cb8 := ne_cb8_cb26.symm
  have ne_cb13_cb26 : cb13 ≠ cb26 := by have := (obj_lt o_cb13); omega
  have ne_cb26_cb13 := ne_cb13_cb26.symm
  have ne_cb18_cb26 : cb18 ≠ cb26 := by have := (obj_lt o_cb18); omega
  have ne_cb26_cb18 := ne_cb18_cb26.symm
  replace g_cb26 := Nat.le_trans hs g_cb26
  have ap_r_q22_r_q4 := ap_call r_q22 r_q4; have ap_r_q4_r_q22 := ap_comm ap_r_q22_r_q4
  have ap_r_q22_r_q9 := ap_call r_q22 r_q9; have ap_r_q9_r_q22 := ap_comm ap_r_q22_r_q9
  have ap_r_q22_r_q14 := ap_call r_q22 r_q14; have ap_r_q14_r_q22 := ap_comm ap_r_q22_r_q14
  replace r_q22 := r_q22.base hs
  replace hb := hb.trans (hB24.mono hs)
  replace hs := Nat.le_trans hs (hB24.size)
  replace o_x8 := obj_below o_x8 hB24
  replace o_cb8 := obj_below o_cb8 hB24
  replace o_cb13 := obj_below o_cb13 hB24
  replace o_cb18 := obj_below o_cb18 hB24
  replace p_a := p_a.below hB24
  replace p_b := p_b.below hB24
  replace p_c := p_c.below hB24
  replace p_val := p_val.below hB24
  replace r_q4 := r_q4.below hB24
  replace r_q9 := r_q9.below hB24
  replace r_q14 := r_q14.below hB24
  refine L_mv (L_call 29 [(.pointer (some ⟨cb26, 0, none⟩)), (.pointer (some ⟨cb18, 0, none⟩))] (by kernel_rfl) (by kernel_rfl) (c_over_I cb26 q22 (overF eqI (ofG a val) (ofG b val)) cb18 q14 (ofG c val) _ o_cb26 r_q22.rd o_cb18 r_q14.rd (by first | exact ox.rise | exact oy.rise | exact oz.rise | exact overF_rise _ _ | exact turnAll_rise _ _) (by first | exact ox.rise | exact oy.rise | exact oz.rise | exact overF_rise _ _ | exact turnAll_rise _ _)) ?_)
  rintro _ w28 ⟨q27, cb31, rfl, r_q27, o_cb31, g_cb31, hB29⟩
  have ne_x8_cb31 : b1 ≠ cb31 := by have := (obj_lt o_x8); omega
  have ne_cb31_x8 := ne_x8_cb31.symm
  have ne_cb8_cb31 : cb8 ≠ cb31 := by have := (obj_lt o_cb8); omega
  have ne_cb31_cb8 := ne_cb8_cb31.symm
  have ne_cb13_cb31 : cb13 ≠ cb31 := by have := (obj_lt o_cb13); omega
  have ne_cb31_cb13 := ne_cb13_cb31.symm
  have ne_cb18_cb31 : cb18 ≠ cb31 := by have := (obj_lt o_cb18); omega
  have ne_cb31_cb18 := ne_cb18_cb31.symm
  have ne_cb26_cb31 : cb26 ≠ cb31 := by have := (obj_lt o_cb26); omega
  have ne_cb31_cb26 := ne_cb26_cb31.symm
  replace g_cb31 := Nat.le_trans hs g_cb31
  have ap_r_q27_r_q4 := ap_call r_q27 r_q4; have ap_r_q4_r_q27 := ap_comm ap_r_q27_r_q4
  have ap_r_q27_r_q9 := ap_call r_q27 r_q9; have ap_r_q9_r_q27 := ap_comm ap_r_q27_r_q9
  have ap_r_q27_r_q14 := ap_call r_q27 r_q14; have ap_r_q14_r_q27 := ap_comm ap_r_q27_r_q14
  have ap_r_q27_r_q22 := ap_call r_q27 r_q22; have ap_r_q22_r_q27 := ap_comm ap_r_q27_r_q22
  replace r_q27 := r_q27.base hs
  replace hb := hb.trans (hB29.mono hs)
  replace hs := Nat.le_trans hs (hB29.size)
  replace o_x8 := obj_below o_x8 hB29
  replace o_cb8 := obj_below o_cb8 hB29
  replace o_cb13 := obj_below o_cb13 hB29
  replace o_cb18 := obj_below o_cb18 hB29
  replace o_cb26 := obj_below o_cb26 hB29
  replace p_a := p_a.below hB29
  replace p_b := p_b.below hB29
  replace p_c := p_c.below hB29
  replace p_val := p_val.below hB29
  replace r_q4 := r_q4.below hB29
  replace r_q9 := r_q9.below hB29
  replace r_q14 := r_q14.below hB29
  replace r_q22 := r_q22.below hB29
  refine L_as (L_nil (thenQ_normal (W_seq (W_region (L_mv (L_mv (L_mv (L_call 29 [(.pointer (some ⟨cb13, 0, none⟩)), (.pointer (some ⟨cb18, 0, none⟩))] (by kernel_rfl) (by kernel_rfl) (c_over_I cb13 q9 (ofG b val) cb18 q14 (ofG c val) _ o_cb13 r_q9.rd o_cb18 r_q14.rd (by first | exact ox.rise | exact oy.rise | exact oz.rise | exact overF_rise _ _ | exact turnAll_rise _ _) (by first | exact ox.rise | exact oy.rise | exact oz.rise | exact overF_rise _ _ | exact turnAll_rise _ _)) ?_))))))))
  rintro _ w33 ⟨q32, cb36, rfl, r_q32, o_cb36, g_cb36, hB34⟩
  have ne_x8_cb36 : b1 ≠ cb36 := by have := (obj_lt o_x8); omega
  have ne_cb36_x8 := ne_x8_cb36.symm
  have ne_cb8_cb36 : cb8 ≠ cb36 := by have := (obj_lt o_cb8); omega
  have ne_cb36_cb8 := ne_cb8_cb36.symm
  have ne_cb13_cb36 : cb13 ≠ cb36 := by have := (obj_lt o_cb13); omega
  have ne_cb36_cb13 := ne_cb13_cb36.symm
  have ne_cb18_cb36 : cb18 ≠ cb36 := by have := (obj_lt o_cb18); omega
  have ne_cb36_cb18 := ne_cb18_cb36.symm
  have ne_cb26_cb36 : cb26 ≠ cb36 := by have := (obj_lt o_cb26); omega
  have ne_cb36_cb26 := ne_cb26_cb36.symm
  have ne_cb31_cb36 : cb31 ≠ cb36 := by have := (obj_lt o_cb31); omega
  have ne_cb36_cb31 := ne_cb31_cb36.symm
  replace g_cb36 := Nat.le_trans hs g_cb36
  have ap_r_q32_r_q4 := ap_call r_q32 r_q4; have ap_r_q4_r_q32 := ap_comm ap_r_q32_r_q4
  have ap_r_q32_r_q9 := ap_call r_q32 r_q9; have ap_r_q9_r_q32 := ap_comm ap_r_q32_r_q9
  have ap_r_q32_r_q14 := ap_call r_q32 r_q14; have ap_r_q14_r_q32 := ap_comm ap_r_q32_r_q14
  have ap_r_q32_r_q22 := ap_call r_q32 r_q22; have ap_r_q22_r_q32 := ap_comm ap_r_q32_r_q22
  have ap_r_q32_r_q27 := ap_call r_q32 r_q27; have ap_r_q27_r_q32 := ap_comm ap_r_q32_r_q27
  replace r_q32 := r_q32.base hs
  replace hb := hb.trans (hB34.mono hs)
  replace hs := Nat.le_trans hs (hB34.size)
  replace o_x8 := obj_below o_x8 hB34
  replace o_cb8 := obj_below o_cb8 hB34
  replace o_cb13 := obj_below o_cb13 hB34
  replace o_cb18 := obj_below o_cb18 hB34
  replace o_cb26 := obj_below o_cb26 hB34
  replace o_cb31 := obj_below o_cb31 hB34
  replace p_a := p_a.below hB34
  replace p_b := p_b.below hB34
  replace p_c := p_c.below hB34
  replace p_val := p_val.below hB34
  replace r_q4 := r_q4.below hB34
  replace r_q9 := r_q9.below hB34
  replace r_q14 := r_q14.below hB34
  replace r_q22 := r_q22.below hB34
  replace r_q27 := r_q27.below hB34
  refine L_call 29 [(.pointer (some ⟨cb8, 0, none⟩)), (.pointer (some ⟨cb36, 0, none⟩))] (by kernel_rfl) (by kernel_rfl) (c_over_I cb8 q4 (ofG a val) cb36 q32 (overF eqI (ofG b val) (ofG c val)) _ o_cb8 r_q4.rd o_cb36 r_q32.rd (by first | exact ox.rise | exact oy.rise | exact oz.rise | exact overF_rise _ _ | exact turnAll_rise _ _) (by first | exact ox.rise | exact oy.rise | exact oz.rise | exact overF_rise _ _ | exact turnAll_rise _ _)) ?_
  rintro _ w38 ⟨q37, cb41, rfl, r_q37, o_cb41, g_cb41, hB39⟩
  have ne_x8_cb41 : b1 ≠ cb41 := by have := (obj_lt o_x8); omega
  have ne_cb41_x8 := ne_x8_cb41.symm
  have ne_cb8_cb41 : cb8 ≠ cb41 := by have := (obj_lt o_cb8); omega
  have ne_cb41_cb8 := ne_cb8_cb41.symm
  have ne_cb13_cb41 : cb13 ≠ cb41 := by have := (obj_lt o_cb13); omega
  have ne_cb41_cb13 := ne_cb13_cb41.symm
  have ne_cb18_cb41 : cb18 ≠ cb41 := by have := (obj_lt o_cb18); omega
  have ne_cb41_cb18 := ne_cb18_cb41.symm
  have ne_cb26_cb41 : cb26 ≠ cb41 := by have := (obj_lt o_cb26); omega
  have ne_cb41_cb26 := ne_cb26_cb41.symm
  have ne_cb31_cb41 : cb31 ≠ cb41 := by have := (obj_lt o_cb31); omega
  have ne_cb41_cb31 := ne_cb31_cb41.symm
  have ne_cb36_cb41 : cb36 ≠ cb41 := by have := (obj_lt o_cb36); omega
  have ne_cb41_cb36 := ne_cb36_cb41.symm
  replace g_cb41 := Nat.le_trans hs g_cb41
  have ap_r_q37_r_q4 := ap_call r_q37 r_q4; have ap_r_q4_r_q37 := ap_comm ap_r_q37_r_q4
  have ap_r_q37_r_q9 := ap_call r_q37 r_q9; have ap_r_q9_r_q37 := ap_comm ap_r_q37_r_q9
  have ap_r_q37_r_q14 := ap_call r_q37 r_q14; have ap_r_q14_r_q37 := ap_comm ap_r_q37_r_q14
  have ap_r_q37_r_q22 := ap_call r_q37 r_q22; have ap_r_q22_r_q37 := ap_comm ap_r_q37_r_q22
  have ap_r_q37_r_q27 := ap_call r_q37 r_q27; have ap_r_q27_r_q37 := ap_comm ap_r_q37_r_q27
  have ap_r_q37_r_q32 := ap_call r_q37 r_q32; have ap_r_q32_r_q37 := ap_comm ap_r_q37_r_q32
  replace r_q37 := r_q37.base hs
  replace hb := hb.trans (hB39.mono hs)
  replace hs := Nat.le_trans hs (hB39.size)
  replace o_x8 := obj_below o_x8 hB39
  replace o_cb8 := obj_below o_cb8 hB39
  replace o_cb13 := obj_below o_cb13 hB39
  replace o_cb18 := obj_below o_cb18 hB39
  replace o_cb26 := obj_below o_cb26 hB39
  replace o_cb31 := obj_below o_cb31 hB39
  replace o_cb36 := obj_below o_cb36 hB39
  replace p_a := p_a.below hB39
  replace p_b := p_b.below hB39
  replace p_c := p_c.below hB39
  replace p_val := p_val.below hB39
  replace r_q4 := r_q4.below hB39
  replace r_q9 := r_q9.below hB39
  replace r_q14 := r_q14.below hB39
  replace r_q22 := r_q22.below hB39
  replace r_q27 := r_q27.below hB39
  replace r_q32 := r_q32.below hB39
  refine L_as (L_nil (thenQ_normal (W_seq (W_region (L_mv (L_call 31 [(.pointer (some ⟨cb8, 0, none⟩)), (.func (.func 32) #[] #[])] (by kernel_rfl) (by kernel_rfl) (c_turn_IB cb8 q4 (ofG a val) _ o_cb8 r_q4.rd (by first | exact ox.rise | exact oy.rise | exact oz.rise | exact overF_rise _ _ | exact turnAll_rise _ _)) ?_))))))
  rintro _ w43 ⟨q42, cb46, rfl, r_q42, o_cb46, g_cb46, hB44⟩
  have ne_x8_cb46 : b1 ≠ cb46 := by have := (obj_lt o_x8); omega
  have ne_cb46_x8 := ne_x8_cb46.symm
  have ne_cb8_cb46 : cb8 ≠ cb46 := by have := (obj_lt o_cb8); omega
  have ne_cb46_cb8 := ne_cb8_cb46.symm
  have ne_cb13_cb46 : cb13 ≠ cb46 := by have := (obj_lt o_cb13); omega
  have ne_cb46_cb13 := ne_cb13_cb46.symm
  have ne_cb18_cb46 : cb18 ≠ cb46 := by have := (obj_lt o_cb18); omega
  have ne_cb46_cb18 := ne_cb18_cb46.symm
  have ne_cb26_cb46 : cb26 ≠ cb46 := by have := (obj_lt o_cb26); omega
  have ne_cb46_cb26 := ne_cb26_cb46.symm
  have ne_cb31_cb46 : cb31 ≠ cb46 := by have := (obj_lt o_cb31); omega
  have ne_cb46_cb31 := ne_cb31_cb46.symm
  have ne_cb36_cb46 : cb36 ≠ cb46 := by have := (obj_lt o_cb36); omega
  have ne_cb46_cb36 := ne_cb36_cb46.symm
  have ne_cb41_cb46 : cb41 ≠ cb46 := by have := (obj_lt o_cb41); omega
  have ne_cb46_cb41 := ne_cb41_cb46.symm
  replace g_cb46 := Nat.le_trans hs g_cb46
  replace r_q42 := r_q42.base hs
  replace hb := hb.trans (hB44.mono hs)
  replace hs := Nat.le_trans hs (hB44.size)
  replace o_x8 := obj_below o_x8 hB44
  replace o_cb8 := obj_below o_cb8 hB44
  replace o_cb13 := obj_below o_cb13 hB44
  replace o_cb18 := obj_below o_cb18 hB44
  replace o_cb26 := obj_below o_cb26 hB44
  replace o_cb31 := obj_below o_cb31 hB44
  replace o_cb36 := obj_below o_cb36 hB44
  replace o_cb41 := obj_below o_cb41 hB44
  replace p_a := p_a.below hB44
  replace p_b := p_b.below hB44
  replace p_c := p_c.below hB44
  replace p_val := p_val.below hB44
  replace r_q4 := r_q4.below hB44
  replace r_q9 := r_q9.below hB44
  replace r_q14 := r_q14.below hB44
  replace r_q22 := r_q22.below hB44
  replace r_q27 := r_q27.below hB44
  replace r_q32 := r_q32.below hB44
  replace r_q37 := r_q37.below hB44
  refine L_call 30 [(.pointer (some ⟨cb46, 0, none⟩)), (.func (.func 33) #[] #[])] (by kernel_rfl) (by kernel_rfl) (c_turn_BS cb46 q42 (turnAll eqB evenB (ofG a val)) _ o_cb46 r_q42.rd (by first | exact ox.rise | exact oy.rise | exact oz.rise | exact overF_rise _ _ | exact turnAll_rise _ _)) ?_
  rintro _ w48 ⟨q47, cb51, rfl, r_q47, o_cb51, g_cb51, hB49⟩
  have ne_x8_cb51 : b1 ≠ cb51 := by have := (obj_lt o_x8); omega
  have ne_cb51_x8 := ne_x8_cb51.symm
  have ne_cb8_cb51 : cb8 ≠ cb51 := by have := (obj_lt o_cb8); omega
  have ne_cb51_cb8 := ne_cb8_cb51.symm
  have ne_cb13_cb51 : cb13 ≠ cb51 := by have := (obj_lt o_cb13); omega
  have ne_cb51_cb13 := ne_cb13_cb51.symm
  have ne_cb18_cb51 : cb18 ≠ cb51 := by have := (obj_lt o_cb18); omega
  have ne_cb51_cb18 := ne_cb18_cb51.symm
  have ne_cb26_cb51 : cb26 ≠ cb51 := by have := (obj_lt o_cb26); omega
  have ne_cb51_cb26 := ne_cb26_cb51.symm
  have ne_cb31_cb51 : cb31 ≠ cb51 := by have := (obj_lt o_cb31); omega
  have ne_cb51_cb31 := ne_cb31_cb51.symm
  have ne_cb36_cb51 : cb36 ≠ cb51 := by have := (obj_lt o_cb36); omega
  have ne_cb51_cb36 := ne_cb36_cb51.symm
  have ne_cb41_cb51 : cb41 ≠ cb51 := by have := (obj_lt o_cb41); omega
  have ne_cb51_cb41 := ne_cb41_cb51.symm
  have ne_cb46_cb51 : cb46 ≠ cb51 := by have := (obj_lt o_cb46); omega
  have ne_cb51_cb46 := ne_cb46_cb51.symm
  replace g_cb51 := Nat.le_trans hs g_cb51
  replace r_q47 := r_q47.base hs
  replace hb := hb.trans (hB49.mono hs)
  replace hs := Nat.le_trans hs (hB49.size)
  replace o_x8 := obj_below o_x8 hB49
  replace o_cb8 := obj_below o_cb8 hB49
  replace o_cb13 := obj_below o_cb13 hB49
  replace o_cb18 := obj_below o_cb18 hB49
  replace o_cb26 := obj_below o_cb26 hB49
  replace o_cb31 := obj_below o_cb31 hB49
  replace o_cb36 := obj_below o_cb36 hB49
  replace o_cb41 := obj_below o_cb41 hB49
  replace o_cb46 := obj_below o_cb46 hB49
  replace p_a := p_a.below hB49
  replace p_b := p_b.below hB49
  replace p_c := p_c.below hB49
  replace p_val := p_val.below hB49
  replace r_q4 := r_q4.below hB49
  replace r_q9 := r_q9.below hB49
  replace r_q14 := r_q14.below hB49
  replace r_q22 := r_q22.below hB49
  replace r_q27 := r_q27.below hB49
  replace r_q32 := r_q32.below hB49
  replace r_q37 := r_q37.below hB49
  replace r_q42 := r_q42.below hB49
  refine L_as (L_nil (thenQ_normal (W_seq (W_region (L_mv (L_call 34 [(.pointer (some ⟨cb8, 0, none⟩)), (.func (.func 35) #[] #[])] (by kernel_rfl) (by kernel_rfl) (c_turn_IS cb8 q4 (ofG a val) _ o_cb8 r_q4.rd (by first | exact ox.rise | exact oy.rise | exact oz.rise | exact overF_rise _ _ | exact turnAll_rise _ _)) ?_))))))
  rintro _ w53 ⟨q52, cb56, rfl, r_q52, o_cb56, g_cb56, hB54⟩
  have ne_x8_cb56 : b1 ≠ cb56 := by have := (obj_lt o_x8); omega
  have ne_cb56_x8 := ne_x8_cb56.symm
  have ne_cb8_cb56 : cb8 ≠ cb56 := by have := (obj_lt o_cb8); omega
  have ne_cb56_cb8 := ne_cb8_cb56.symm
  have ne_cb13_cb56 : cb13 ≠ cb56 := by have := (obj_lt o_cb13); omega
  have ne_cb56_cb13 := ne_cb13_cb56.symm
  have ne_cb18_cb56 : cb18 ≠ cb56 := by have := (obj_lt o_cb18); omega
  have ne_cb56_cb18 := ne_cb18_cb56.symm
  have ne_cb26_cb56 : cb26 ≠ cb56 := by have := (obj_lt o_cb26); omega
  have ne_cb56_cb26 := ne_cb26_cb56.symm
  have ne_cb31_cb56 : cb31 ≠ cb56 := by have := (obj_lt o_cb31); omega
  have ne_cb56_cb31 := ne_cb31_cb56.symm
  have ne_cb36_cb56 : cb36 ≠ cb56 := by have := (obj_lt o_cb36); omega
  have ne_cb56_cb36 := ne_cb36_cb56.symm
  have ne_cb41_cb56 : cb41 ≠ cb56 := by have := (obj_lt o_cb41); omega
  have ne_cb56_cb41 := ne_cb41_cb56.symm
  have ne_cb46_cb56 : cb46 ≠ cb56 := by have := (obj_lt o_cb46); omega
  have ne_cb56_cb46 := ne_cb46_cb56.symm
  have ne_cb51_cb56 : cb51 ≠ cb56 := by have := (obj_lt o_cb51); omega
  have ne_cb56_cb51 := ne_cb51_cb56.symm
  replace g_cb56 := Nat.le_trans hs g_cb56
  have ap_r_q52_r_q47 := ap_call r_q52 r_q47; have ap_r_q47_r_q52 := ap_comm ap_r_q52_r_q47
  replace r_q52 := r_q52.base hs
  replace hb := hb.trans (hB54.mono hs)
  replace hs := Nat.le_trans hs (hB54.size)
  replace o_x8 := obj_below o_x8 hB54
  replace o_cb8 := obj_below o_cb8 hB54
  replace o_cb13 := obj_below o_cb13 hB54
  replace o_cb18 := obj_below o_cb18 hB54
  replace o_cb26 := obj_below o_cb26 hB54
  replace o_cb31 := obj_below o_cb31 hB54
  replace o_cb36 := obj_below o_cb36 hB54
  replace o_cb41 := obj_below o_cb41 hB54
  replace o_cb46 := obj_below o_cb46 hB54
  replace o_cb51 := obj_below o_cb51 hB54
  replace p_a := p_a.below hB54
  replace p_b := p_b.below hB54
  replace p_c := p_c.below hB54
  replace p_val := p_val.below hB54
  replace r_q4 := r_q4.below hB54
  replace r_q9 := r_q9.below hB54
  replace r_q14 := r_q14.below hB54
  replace r_q22 := r_q22.below hB54
  replace r_q27 := r_q27.below hB54
  replace r_q32 := r_q32.below hB54
  replace r_q37 := r_q37.below hB54
  replace r_q42 := r_q42.below hB54
  replace r_q47 := r_q47.below hB54
  refine L_as (L_nil (thenQ_normal (W_seq (W_region (L_mv (L_call 34 [(.pointer (some ⟨cb8, 0, none⟩)), .nilFunc] (by kernel_rfl) (by kernel_rfl) (c_turn_nil cb8 q4 (ofG a val) _ o_cb8 r_q4.rd (by first | exact ox.rise | exact oy.rise | exact oz.rise | exact overF_rise _ _ | exact turnAll_rise _ _)) ?_))))))
  rintro _ w58 ⟨q57, cb61, rfl, r_q57, o_cb61, g_cb61, hB59⟩
  have ne_x8_cb61 : b1 ≠ cb61 := by have := (obj_lt o_x8); omega
  have ne_cb61_x8 := ne_x8_cb61.symm
  have ne_cb8_cb61 : cb8 ≠ cb61 := by have := (obj_lt o_cb8); omega
  have ne_cb61_cb8 := ne_cb8_cb61.symm
  have ne_cb13_cb61 : cb13 ≠ cb61 := by have := (obj_lt o_cb13); omega
  have ne_cb61_cb13 := ne_cb13_cb61.symm
  have ne_cb18_cb61 : cb18 ≠ cb61 := by have := (obj_lt o_cb18); omega
  have ne_cb61_cb18 := ne_cb18_cb61.symm
  have ne_cb26_cb61 : cb26 ≠ cb61 := by have := (obj_lt o_cb26); omega
  have ne_cb61_cb26 := ne_cb26_cb61.symm
  have ne_cb31_cb61 : cb31 ≠ cb61 := by have := (obj_lt o_cb31); omega
  have ne_cb61_cb31 := ne_cb31_cb61.symm
  have ne_cb36_cb61 : cb36 ≠ cb61 := by have := (obj_lt o_cb36); omega
  have ne_cb61_cb36 := ne_cb36_cb61.symm
  have ne_cb41_cb61 : cb41 ≠ cb61 := by have := (obj_lt o_cb41); omega
  have ne_cb61_cb41 := ne_cb41_cb61.symm
  have ne_cb46_cb61 : cb46 ≠ cb61 := by have := (obj_lt o_cb46); omega
  have ne_cb61_cb46 := ne_cb46_cb61.symm
  have ne_cb51_cb61 : cb51 ≠ cb61 := by have := (obj_lt o_cb51); omega
  have ne_cb61_cb51 := ne_cb51_cb61.symm
  have ne_cb56_cb61 : cb56 ≠ cb61 := by have := (obj_lt o_cb56); omega
  have ne_cb61_cb56 := ne_cb56_cb61.symm
  replace g_cb61 := Nat.le_trans hs g_cb61
  have ap_r_q57_r_q47 := ap_call r_q57 r_q47; have ap_r_q47_r_q57 := ap_comm ap_r_q57_r_q47
  have ap_r_q57_r_q52 := ap_call r_q57 r_q52; have ap_r_q52_r_q57 := ap_comm ap_r_q57_r_q52
  replace r_q57 := r_q57.base hs
  replace hb := hb.trans (hB59.mono hs)
  replace hs := Nat.le_trans hs (hB59.size)
  replace o_x8 := obj_below o_x8 hB59
  replace o_cb8 := obj_below o_cb8 hB59
  replace o_cb13 := obj_below o_cb13 hB59
  replace o_cb18 := obj_below o_cb18 hB59
  replace o_cb26 := obj_below o_cb26 hB59
  replace o_cb31 := obj_below o_cb31 hB59
  replace o_cb36 := obj_below o_cb36 hB59
  replace o_cb41 := obj_below o_cb41 hB59
  replace o_cb46 := obj_below o_cb46 hB59
  replace o_cb51 := obj_below o_cb51 hB59
  replace o_cb56 := obj_below o_cb56 hB59
  replace p_a := p_a.below hB59
  replace p_b := p_b.below hB59
  replace p_c := p_c.below hB59
  replace p_val := p_val.below hB59
  replace r_q4 := r_q4.below hB59
  replace r_q9 := r_q9.below hB59
  replace r_q14 := r_q14.below hB59
  replace r_q22 := r_q22.below hB59
  replace r_q27 := r_q27.below hB59
  replace r_q32 := r_q32.below hB59
  replace r_q37 := r_q37.below hB59
  replace r_q42 := r_q42.below hB59
  replace r_q47 := r_q47.below hB59
  replace r_q52 := r_q52.below hB59
  refine L_as (L_nil (thenQ_normal (W_seq (W_seq (W_region (L_mv (L_run (.bool false) (by kernel_rfl) (by kernel_rfl) (L_mv (L_want (by kernel_rfl) (L_mv (L_want (by kernel_rfl) (L_call 36 [(.pointer (some ⟨cb61, 0, none⟩))] (by kernel_rfl) (by kernel_rfl) (c_size_S cb61 q57 (turnAll eqS (fun _ => ([] : List UInt8)) (ofG a val)) _ o_cb61 r_q57.rd (by first | exact ox.rise | exact turnAll_rise _ _)) ?_))))))))))))
  rintro _ w62 ⟨rfl, hB63⟩
  replace hb := hb.trans (hB63.mono hs)
  replace hs := Nat.le_trans hs (hB63.size)
  replace o_x8 := obj_below o_x8 hB63
  replace o_cb8 := obj_below o_cb8 hB63
  replace o_cb13 := obj_below o_cb13 hB63
  replace o_cb18 := obj_below o_cb18 hB63
  replace o_cb26 := obj_below o_cb26 hB63
  replace o_cb31 := obj_below o_cb31 hB63
  replace o_cb36 := obj_below o_cb36 hB63
  replace o_cb41 := obj_below o_cb41 hB63
  replace o_cb46 := obj_below o_cb46 hB63
  replace o_cb51 := obj_below o_cb51 hB63
  replace o_cb56 := obj_below o_cb56 hB63
  replace o_cb61 := obj_below o_cb61 hB63
  replace p_a := p_a.below hB63
  replace p_b := p_b.below hB63
  replace p_c := p_c.below hB63
  replace p_val := p_val.below hB63
  replace r_q4 := r_q4.below hB63
  replace r_q9 := r_q9.below hB63
  replace r_q14 := r_q14.below hB63
  replace r_q22 := r_q22.below hB63
  replace r_q27 := r_q27.below hB63
  replace r_q32 := r_q32.below hB63
  replace r_q37 := r_q37.below hB63
  replace r_q42 := r_q42.below hB63
  replace r_q47 := r_q47.below hB63
  replace r_q52 := r_q52.below hB63
  replace r_q57 := r_q57.below hB63
  refine L_want (by kernel_rfl) (L_mv (L_want (by kernel_rfl) (L_call 37 [(.pointer (some ⟨cb8, 0, none⟩))] (by kernel_rfl) (by kernel_rfl) (c_size_I cb8 q4 (ofG a val) _ o_cb8 r_q4.rd (by first | exact ox.rise | exact turnAll_rise _ _)) ?_)))
  rintro _ w65 ⟨rfl, hB66⟩
  replace hb := hb.trans (hB66.mono hs)
  replace hs := Nat.le_trans hs (hB66.size)
  replace o_x8 := obj_below o_x8 hB66
  replace o_cb8 := obj_below o_cb8 hB66
  replace o_cb13 := obj_below o_cb13 hB66
  replace o_cb18 := obj_below o_cb18 hB66
  replace o_cb26 := obj_below o_cb26 hB66
  replace o_cb31 := obj_below o_cb31 hB66
  replace o_cb36 := obj_below o_cb36 hB66
  replace o_cb41 := obj_below o_cb41 hB66
  replace o_cb46 := obj_below o_cb46 hB66
  replace o_cb51 := obj_below o_cb51 hB66
  replace o_cb56 := obj_below o_cb56 hB66
  replace o_cb61 := obj_below o_cb61 hB66
  replace p_a := p_a.below hB66
  replace p_b := p_b.below hB66
  replace p_c := p_c.below hB66
  replace p_val := p_val.below hB66
  replace r_q4 := r_q4.below hB66
  replace r_q9 := r_q9.below hB66
  replace r_q14 := r_q14.below hB66
  replace r_q22 := r_q22.below hB66
  replace r_q27 := r_q27.below hB66
  replace r_q32 := r_q32.below hB66
  replace r_q37 := r_q37.below hB66
  replace r_q42 := r_q42.below hB66
  replace r_q47 := r_q47.below hB66
  replace r_q52 := r_q52.below hB66
  replace r_q57 := r_q57.below hB66
  refine L_want (by kernel_rfl) (L_cmp .i64 (sizeG (turnAll eqS (fun _ => ([] : List UInt8)) (ofG a val))) (sizeG (ofG a val)) ((sizeG (turnAll eqS (fun _ => ([] : List UInt8)) (ofG a val))) ≠ (sizeG (ofG a val))) rfl (cmp_ne (sizeG (turnAll eqS (fun _ => ([] : List UInt8)) (ofG a val))) (sizeG (ofG a val))) (by kernel_rfl) (by kernel_rfl) ?_ ?_)
  · intro h68
    replace h68 : (sizeG (turnAll eqS (fun _ => ([] : List UInt8)) (ofG a val))) ≠ (sizeG (ofG a val)) := by omega
    exfalso; exact h68 (turn_size eqS_law _ ox.rise)
  · intro h69
    replace h69 : (sizeG (turnAll eqS (fun _ => ([] : List UInt8)) (ofG a val))) = (sizeG (ofG a val)) := by omega
    refine L_pickF (by kernel_rfl) (L_nil (thenQ_normal (W_false (by kernel_rfl) (W_skip (thenQ_normal (W_seq (W_seq (W_region (L_mv (L_call 38 [(.pointer (some ⟨cb61, 0, none⟩))] (by kernel_rfl) (by kernel_rfl) (c_all_S cb61 q57 (turnAll eqS (fun _ => ([] : List UInt8)) (ofG a val)) _ o_cb61 r_q57.rd) ?_))))))))))
    rintro _ w70 ⟨cb73, rfl, o_cb73, g_cb73, hB71⟩
    have ne_x8_cb73 : b1 ≠ cb73 := by have := (obj_lt o_x8); omega
    have ne_cb73_x8 := ne_x8_cb73.symm
    have ne_cb8_cb73 : cb8 ≠ cb73 := by have := (obj_lt o_cb8); omega
    have ne_cb73_cb8 := ne_cb8_cb73.symm
    have ne_cb13_cb73 : cb13 ≠ cb73 := by have := (obj_lt o_cb13); omega
    have ne_cb73_cb13 := ne_cb13_cb73.symm
    have ne_cb18_cb73 : cb18 ≠ cb73 := by have := (obj_lt o_cb18); omega
    have ne_cb73_cb18 := ne_cb18_cb73.symm
    have ne_cb26_cb73 : cb26 ≠ cb73 := by have := (obj_lt o_cb26); omega
    have ne_cb73_cb26 := ne_cb26_cb73.symm
    have ne_cb31_cb73 : cb31 ≠ cb73 := by have := (obj_lt o_cb31); omega
    have ne_cb73_cb31 := ne_cb31_cb73.symm
    have ne_cb36_cb73 : cb36 ≠ cb73 := by have := (obj_lt o_cb36); omega
    have ne_cb73_cb36 := ne_cb36_cb73.symm
    have ne_cb41_cb73 : cb41 ≠ cb73 := by have := (obj_lt o_cb41); omega
    have ne_cb73_cb41 := ne_cb41_cb73.symm
    have ne_cb46_cb73 : cb46 ≠ cb73 := by have := (obj_lt o_cb46); omega
    have ne_cb73_cb46 := ne_cb46_cb73.symm
    have ne_cb51_cb73 : cb51 ≠ cb73 := by have := (obj_lt o_cb51); omega
    have ne_cb73_cb51 := ne_cb51_cb73.symm
    have ne_cb56_cb73 : cb56 ≠ cb73 := by have := (obj_lt o_cb56); omega
    have ne_cb73_cb56 := ne_cb56_cb73.symm
    have ne_cb61_cb73 : cb61 ≠ cb73 := by have := (obj_lt o_cb61); omega
    have ne_cb73_cb61 := ne_cb61_cb73.symm
    replace g_cb73 := Nat.le_trans hs g_cb73
    replace hb := hb.trans (hB71.mono hs)
    replace hs := Nat.le_trans hs (hB71.size)
    replace o_x8 := obj_below o_x8 hB71
    replace o_cb8 := obj_below o_cb8 hB71
    replace o_cb13 := obj_below o_cb13 hB71
    replace o_cb18 := obj_below o_cb18 hB71
    replace o_cb26 := obj_below o_cb26 hB71
    replace o_cb31 := obj_below o_cb31 hB71
    replace o_cb36 := obj_below o_cb36 hB71
    replace o_cb41 := obj_below o_cb41 hB71
    replace o_cb46 := obj_below o_cb46 hB71
    replace o_cb51 := obj_below o_cb51 hB71
    replace o_cb56 := obj_below o_cb56 hB71
    replace o_cb61 := obj_below o_cb61 hB71
    replace p_a := p_a.below hB71
    replace p_b := p_b.below hB71
    replace p_c := p_c.below hB71
    replace p_val := p_val.below hB71
    replace r_q4 := r_q4.below hB71
    replace r_q9 := r_q9.below hB71
    replace r_q14 := r_q14.below hB71
    replace r_q22 := r_q22.below hB71
    replace r_q27 := r_q27.below hB71
    replace r_q32 := r_q32.below hB71
    replace r_q37 := r_q37.below hB71
    replace r_q42 := r_q42.below hB71
    replace r_q47 := r_q47.below hB71
    replace r_q52 := r_q52.below hB71
    replace r_q57 := r_q57.below hB71
    refine L_run (.bool false) (by kernel_rfl) (by kernel_rfl) (L_nil (thenQ_normal (W_false (by kernel_rfl) (W_skip (thenQ_normal (W_seq (W_seq (W_region (L_mv (L_call 38 [(.pointer (some ⟨cb61, 0, none⟩))] (by kernel_rfl) (by kernel_rfl) (c_all_S cb61 q57 (turnAll eqS (fun _ => ([] : List UInt8)) (ofG a val)) _ o_cb61 r_q57.rd) ?_))))))))))
    rintro _ w74 ⟨cb77, rfl, o_cb77, g_cb77, hB75⟩
    have ne_x8_cb77 : b1 ≠ cb77 := by have := (obj_lt o_x8); omega
    have ne_cb77_x8 := ne_x8_cb77.symm
    have ne_cb8_cb77 : cb8 ≠ cb77 := by have := (obj_lt o_cb8); omega
    have ne_cb77_cb8 := ne_cb8_cb77.symm
    have ne_cb13_cb77 : cb13 ≠ cb77 := by have := (obj_lt o_cb13); omega
    have ne_cb77_cb13 := ne_cb13_cb77.symm
    have ne_cb18_cb77 : cb18 ≠ cb77 := by have := (obj_lt o_cb18); omega
    have ne_cb77_cb18 := ne_cb18_cb77.symm
    have ne_cb26_cb77 : cb26 ≠ cb77 := by have := (obj_lt o_cb26); omega
    have ne_cb77_cb26 := ne_cb26_cb77.symm
    have ne_cb31_cb77 : cb31 ≠ cb77 := by have := (obj_lt o_cb31); omega
    have ne_cb77_cb31 := ne_cb31_cb77.symm
    have ne_cb36_cb77 : cb36 ≠ cb77 := by have := (obj_lt o_cb36); omega
    have ne_cb77_cb36 := ne_cb36_cb77.symm
    have ne_cb41_cb77 : cb41 ≠ cb77 := by have := (obj_lt o_cb41); omega
    have ne_cb77_cb41 := ne_cb41_cb77.symm
    have ne_cb46_cb77 : cb46 ≠ cb77 := by have := (obj_lt o_cb46); omega
    have ne_cb77_cb46 := ne_cb46_cb77.symm
    have ne_cb51_cb77 : cb51 ≠ cb77 := by have := (obj_lt o_cb51); omega
    have ne_cb77_cb51 := ne_cb51_cb77.symm
    have ne_cb56_cb77 : cb56 ≠ cb77 := by have := (obj_lt o_cb56); omega
    have ne_cb77_cb56 := ne_cb56_cb77.symm
    have ne_cb61_cb77 : cb61 ≠ cb77 := by have := (obj_lt o_cb61); omega
    have ne_cb77_cb61 := ne_cb61_cb77.symm
    have ne_cb73_cb77 : cb73 ≠ cb77 := by have := (obj_lt o_cb73); omega
    have ne_cb77_cb73 := ne_cb73_cb77.symm
    replace g_cb77 := Nat.le_trans hs g_cb77
    replace hb := hb.trans (hB75.mono hs)
    replace hs := Nat.le_trans hs (hB75.size)
    replace o_x8 := obj_below o_x8 hB75
    replace o_cb8 := obj_below o_cb8 hB75
    replace o_cb13 := obj_below o_cb13 hB75
    replace o_cb18 := obj_below o_cb18 hB75
    replace o_cb26 := obj_below o_cb26 hB75
    replace o_cb31 := obj_below o_cb31 hB75
    replace o_cb36 := obj_below o_cb36 hB75
    replace o_cb41 := obj_below o_cb41 hB75
    replace o_cb46 := obj_below o_cb46 hB75
    replace o_cb51 := obj_below o_cb51 hB75
    replace o_cb56 := obj_below o_cb56 hB75
    replace o_cb61 := obj_below o_cb61 hB75
    replace o_cb73 := obj_below o_cb73 hB75
    replace p_a := p_a.below hB75
    replace p_b := p_b.below hB75
    replace p_c := p_c.below hB75
    replace p_val := p_val.below hB75
    replace r_q4 := r_q4.below hB75
    replace r_q9 := r_q9.below hB75
    replace r_q14 := r_q14.below hB75
    replace r_q22 := r_q22.below hB75
    replace r_q27 := r_q27.below hB75
    replace r_q32 := r_q32.below hB75
    replace r_q37 := r_q37.below hB75
    replace r_q42 := r_q42.below hB75
    replace r_q47 := r_q47.below hB75
    replace r_q52 := r_q52.below hB75
    replace r_q57 := r_q57.below hB75
    refine L_nil (thenQ_normal (W_block ?_))
    have lt_x8_0 : b1 < w74.heap.size := obj_lt o_x8
    have lt_cb8_0 : cb8 < w74.heap.size := obj_lt o_cb8
    have lt_cb13_0 : cb13 < w74.heap.size := obj_lt o_cb13
    have lt_cb18_0 : cb18 < w74.heap.size := obj_lt o_cb18
    have lt_cb26_0 : cb26 < w74.heap.size := obj_lt o_cb26
    have lt_cb31_0 : cb31 < w74.heap.size := obj_lt o_cb31
    have lt_cb36_0 : cb36 < w74.heap.size := obj_lt o_cb36
    have lt_cb41_0 : cb41 < w74.heap.size := obj_lt o_cb41
    have lt_cb46_0 : cb46 < w74.heap.size := obj_lt o_cb46
    have lt_cb51_0 : cb51 < w74.heap.size := obj_lt o_cb51
    have lt_cb56_0 : cb56 < w74.heap.size := obj_lt o_cb56
    have lt_cb61_0 : cb61 < w74.heap.size := obj_lt o_cb61
    have lt_cb73_0 : cb73 < w74.heap.size := obj_lt o_cb73
    have lt_cb77_0 : cb77 < w74.heap.size := obj_lt o_cb77
    have hs_0 := hs
    have hb_0 := hb
    refine W_range 72 [(.pointer (some ⟨cb77, 0, none⟩))] (turnAll eqS (fun _ => ([] : List UInt8)) (ofG a val)) (by kernel_rfl) (fun _ _ => rfl) (it_all_S cb77 cb61 q57 (turnAll eqS (fun _ => ([] : List UInt8)) (ofG a val)) (by exact Nat.le_trans (turnAll_rise _ _).len (by decide))) ⟨o_cb77, o_cb61, r_q57.rd⟩ ((fun D A B h hc hd => ⟨obj_ch h.1 hc (fun h => Nat.not_lt.2 (hd _ h) lt_cb77_0), obj_ch h.2.1 hc (fun h => Nat.not_lt.2 (hd _ h) lt_cb61_0), Rd.ch r_q57.rd (Nat.le_refl _) h.2.2 hc hd⟩)) (by intro x; rfl) (fun K pre A => (A.heap[b1]? = some (.cells [(.bool false)].toArray 4 (0, 0))) ∧ (A.heap[cb8]? = some (.cells [q4, (.bool true)].toArray 109 (0, 0))) ∧ (A.heap[cb13]? = some (.cells [q9, (.bool true)].toArray 109 (0, 0))) ∧ (A.heap[cb18]? = some (.cells [q14, (.bool true)].toArray 109 (0, 0))) ∧ (A.heap[cb26]? = some (.cells [q22, (.bool true)].toArray 109 (0, 0))) ∧ (A.heap[cb31]? = some (.cells [q27, (.bool true)].toArray 109 (0, 0))) ∧ (A.heap[cb36]? = some (.cells [q32, (.bool true)].toArray 109 (0, 0))) ∧ (A.heap[cb41]? = some (.cells [q37, (.bool true)].toArray 109 (0, 0))) ∧ (A.heap[cb46]? = some (.cells [q42, (.bool true)].toArray 123 (0, 0))) ∧ (A.heap[cb51]? = some (.cells [q47, (.bool true)].toArray 136 (0, 0))) ∧ (A.heap[cb56]? = some (.cells [q52, (.bool true)].toArray 136 (0, 0))) ∧ (A.heap[cb61]? = some (.cells [q57, (.bool true)].toArray 136 (0, 0))) ∧ (A.heap[cb73]? = some (.cells [(.pointer (some ⟨cb61, 0, none⟩))].toArray 66 (0, 0))) ∧ (A.heap[cb77]? = some (.cells [(.pointer (some ⟨cb61, 0, none⟩))].toArray 66 (0, 0))) ∧ (Row A w.heap.size 113 3 encSpanI q4 (ofG a val)) ∧ (∀ g, Value.ownBlock q4 = some g → ¬ Iv w74.heap.size K g) ∧ (Row A w.heap.size 113 3 encSpanI q9 (ofG b val)) ∧ (∀ g, Value.ownBlock q9 = some g → ¬ Iv w74.heap.size K g) ∧ (Row A w.heap.size 113 3 encSpanI q14 (ofG c val)) ∧ (∀ g, Value.ownBlock q14 = some g → ¬ Iv w74.heap.size K g) ∧ (Row A w.heap.size 113 3 encSpanI q22 (overF eqI (ofG a val) (ofG b val))) ∧ (∀ g, Value.ownBlock q22 = some g → ¬ Iv w74.heap.size K g) ∧ (Row A w.heap.size 113 3 encSpanI q27 (overF eqI (overF eqI (ofG a val) (ofG b val)) (ofG c val))) ∧ (∀ g, Value.ownBlock q27 = some g → ¬ Iv w74.heap.size K g) ∧ (Row A w.heap.size 113 3 encSpanI q32 (overF eqI (ofG b val) (ofG c val))) ∧ (∀ g, Value.ownBlock q32 = some g → ¬ Iv w74.heap.size K g) ∧ (Row A w.heap.size 113 3 encSpanI q37 (overF eqI (ofG a val) (overF eqI (ofG b val) (ofG c val)))) ∧ (∀ g, Value.ownBlock q37 = some g → ¬ Iv w74.heap.size K g) ∧ (Row A w.heap.size 127 3 encSpanB q42 (turnAll eqB evenB (ofG a val))) ∧ (∀ g, Value.ownBlock q42 = some g → ¬ Iv w74.heap.size K g) ∧ (Row A w.heap.size 138 3 encSpanS q47 (turnAll eqS tellB (turnAll eqB evenB (ofG a val)))) ∧ (∀ g, Value.ownBlock q47 = some g → ¬ Iv w74.heap.size K g) ∧ (Row A w.heap.size 138 3 encSpanS q52 (turnAll eqS (fun v => tellB (evenB v)) (ofG a val))) ∧ (∀ g, Value.ownBlock q52 = some g → ¬ Iv w74.heap.size K g) ∧ (Row A w.heap.size 138 3 encSpanS q57 (turnAll eqS (fun _ => ([] : List UInt8)) (ofG a val))) ∧ (∀ g, Value.ownBlock q57 = some g → ¬ Iv w74.heap.size K g) ∧ (Value.ownBlock q4 = none ∨ Value.ownBlock q4 ≠ Value.ownBlock q9) ∧ (Value.ownBlock q4 = none ∨ Value.ownBlock q4 ≠ Value.ownBlock q14) ∧ (Value.ownBlock q4 = none ∨ Value.ownBlock q4 ≠ Value.ownBlock q22) ∧ (Value.ownBlock q4 = none ∨ Value.ownBlock q4 ≠ Value.ownBlock q27) ∧ (Value.ownBlock q4 = none ∨ Value.ownBlock q4 ≠ Value.ownBlock q32) ∧ (Value.ownBlock q4 = none ∨ Value.ownBlock q4 ≠ Value.ownBlock q37) ∧ (Value.ownBlock q9 = none ∨ Value.ownBlock q9 ≠ Value.ownBlock q4) ∧ (Value.ownBlock q9 = none ∨ Value.ownBlock q9 ≠ Value.ownBlock q14) ∧ (Value.ownBlock q9 = none ∨ Value.ownBlock q9 ≠ Value.ownBlock q22) ∧ (Value.ownBlock q9 = none ∨ Value.ownBlock q9 ≠ Value.ownBlock q27) ∧ (Value.ownBlock q9 = none ∨ Value.ownBlock q9 ≠ Value.ownBlock q32) ∧ (Value.ownBlock q9 = none ∨ Value.ownBlock q9 ≠ Value.ownBlock q37) ∧ (Value.ownBlock q14 = none ∨ Value.ownBlock q14 ≠ Value.ownBlock q4) ∧ (Value.ownBlock q14 = none ∨ Value.ownBlock q14 ≠ Value.ownBlock q9) ∧ (Value.ownBlock q14 = none ∨ Value.ownBlock q14 ≠ Value.ownBlock q22) ∧ (Value.ownBlock q14 = none ∨ Value.ownBlock q14 ≠ Value.ownBlock q27) ∧ (Value.ownBlock q14 = none ∨ Value.ownBlock q14 ≠ Value.ownBlock q32) ∧ (Value.ownBlock q14 = none ∨ Value.ownBlock q14 ≠ Value.ownBlock q37) ∧ (Value.ownBlock q22 = none ∨ Value.ownBlock q22 ≠ Value.ownBlock q4) ∧ (Value.ownBlock q22 = none ∨ Value.ownBlock q22 ≠ Value.ownBlock q9) ∧ (Value.ownBlock q22 = none ∨ Value.ownBlock q22 ≠ Value.ownBlock q14) ∧ (Value.ownBlock q22 = none ∨ Value.ownBlock q22 ≠ Value.ownBlock q27) ∧ (Value.ownBlock q22 = none ∨ Value.ownBlock q22 ≠ Value.ownBlock q32) ∧ (Value.ownBlock q22 = none ∨ Value.ownBlock q22 ≠ Value.ownBlock q37) ∧ (Value.ownBlock q27 = none ∨ Value.ownBlock q27 ≠ Value.ownBlock q4) ∧ (Value.ownBlock q27 = none ∨ Value.ownBlock q27 ≠ Value.ownBlock q9) ∧ (Value.ownBlock q27 = none ∨ Value.ownBlock q27 ≠ Value.ownBlock q14) ∧ (Value.ownBlock q27 = none ∨ Value.ownBlock q27 ≠ Value.ownBlock q22) ∧ (Value.ownBlock q27 = none ∨ Value.ownBlock q27 ≠ Value.ownBlock q32) ∧ (Value.ownBlock q27 = none ∨ Value.ownBlock q27 ≠ Value.ownBlock q37) ∧ (Value.ownBlock q32 = none ∨ Value.ownBlock q32 ≠ Value.ownBlock q4) ∧ (Value.ownBlock q32 = none ∨ Value.ownBlock q32 ≠ Value.ownBlock q9) ∧ (Value.ownBlock q32 = none ∨ Value.ownBlock q32 ≠ Value.ownBlock q14) ∧ (Value.ownBlock q32 = none ∨ Value.ownBlock q32 ≠ Value.ownBlock q22) ∧ (Value.ownBlock q32 = none ∨ Value.ownBlock q32 ≠ Value.ownBlock q27) ∧ (Value.ownBlock q32 = none ∨ Value.ownBlock q32 ≠ Value.ownBlock q37) ∧ (Value.ownBlock q37 = none ∨ Value.ownBlock q37 ≠ Value.ownBlock q4) ∧ (Value.ownBlock q37 = none ∨ Value.ownBlock q37 ≠ Value.ownBlock q9) ∧ (Value.ownBlock q37 = none ∨ Value.ownBlock q37 ≠ Value.ownBlock q14) ∧ (Value.ownBlock q37 = none ∨ Value.ownBlock q37 ≠ Value.ownBlock q22) ∧ (Value.ownBlock q37 = none ∨ Value.ownBlock q37 ≠ Value.ownBlock q27) ∧ (Value.ownBlock q37 = none ∨ Value.ownBlock q37 ≠ Value.ownBlock q32) ∧ (Value.ownBlock q47 = none ∨ Value.ownBlock q47 ≠ Value.ownBlock q52) ∧ (Value.ownBlock q47 = none ∨ Value.ownBlock q47 ≠ Value.ownBlock q57) ∧ (Value.ownBlock q52 = none ∨ Value.ownBlock q52 ≠ Value.ownBlock q47) ∧ (Value.ownBlock q52 = none ∨ Value.ownBlock q52 ≠ Value.ownBlock q57) ∧ (Value.ownBlock q57 = none ∨ Value.ownBlock q57 ≠ Value.ownBlock q47) ∧ (Value.ownBlock q57 = none ∨ Value.ownBlock q57 ≠ Value.ownBlock q52) ∧ (Below w.heap.size w A)) (fun K c pre A => False) ?_ ?_ ?_ ?_ ?_ ?_
    · intro A hA
      exact ⟨obj_below o_x8 hA, obj_below o_cb8 hA, obj_below o_cb13 hA, obj_below o_cb18 hA, obj_below o_cb26 hA, obj_below o_cb31 hA, obj_below o_cb36 hA, obj_below o_cb41 hA, obj_below o_cb46 hA, obj_below o_cb51 hA, obj_below o_cb56 hA, obj_below o_cb61 hA, obj_below o_cb73 hA, obj_below o_cb77 hA, r_q4.below hA, nr_old r_q4 _, r_q9.below hA, nr_old r_q9 _, r_q14.below hA, nr_old r_q14 _, r_q22.below hA, nr_old r_q22 _, r_q27.below hA, nr_old r_q27 _, r_q32.below hA, nr_old r_q32 _, r_q37.below hA, nr_old r_q37 _, r_q42.below hA, nr_old r_q42 _, r_q47.below hA, nr_old r_q47 _, r_q52.below hA, nr_old r_q52 _, r_q57.below hA, nr_old r_q57 _, ap_r_q4_r_q9, ap_r_q4_r_q14, ap_r_q4_r_q22, ap_r_q4_r_q27, ap_r_q4_r_q32, ap_r_q4_r_q37, ap_r_q9_r_q4, ap_r_q9_r_q14, ap_r_q9_r_q22, ap_r_q9_r_q27, ap_r_q9_r_q32, ap_r_q9_r_q37, ap_r_q14_r_q4, ap_r_q14_r_q9, ap_r_q14_r_q22, ap_r_q14_r_q27, ap_r_q14_r_q32, ap_r_q14_r_q37, ap_r_q22_r_q4, ap_r_q22_r_q9, ap_r_q22_r_q14, ap_r_q22_r_q27, ap_r_q22_r_q32, ap_r_q22_r_q37, ap_r_q27_r_q4, ap_r_q27_r_q9, ap_r_q27_r_q14, ap_r_q27_r_q22, ap_r_q27_r_q32, ap_r_q27_r_q37, ap_r_q32_r_q4, ap_r_q32_r_q9, ap_r_q32_r_q14, ap_r_q32_r_q22, ap_r_q32_r_q27, ap_r_q32_r_q37, ap_r_q37_r_q4, ap_r_q37_r_q9, ap_r_q37_r_q14, ap_r_q37_r_q22, ap_r_q37_r_q27, ap_r_q37_r_q32, ap_r_q47_r_q52, ap_r_q47_r_q57, ap_r_q52_r_q47, ap_r_q52_r_q57, ap_r_q57_r_q47, ap_r_q57_r_q52, hb.trans (hA.mono hs)⟩
    · rintro K pre A B ⟨o_x8, o_cb8, o_cb13, o_cb18, o_cb26, o_cb31, o_cb36, o_cb41, o_cb46, o_cb51, o_cb56, o_cb61, o_cb73, o_cb77, r_q4, nr_r_q4, r_q9, nr_r_q9, r_q14, nr_r_q14, r_q22, nr_r_q22, r_q27, nr_r_q27, r_q32, nr_r_q32, r_q37, nr_r_q37, r_q42, nr_r_q42, r_q47, nr_r_q47, r_q52, nr_r_q52, r_q57, nr_r_q57, ap_r_q4_r_q9, ap_r_q4_r_q14, ap_r_q4_r_q22, ap_r_q4_r_q27, ap_r_q4_r_q32, ap_r_q4_r_q37, ap_r_q9_r_q4, ap_r_q9_r_q14, ap_r_q9_r_q22, ap_r_q9_r_q27, ap_r_q9_r_q32, ap_r_q9_r_q37, ap_r_q14_r_q4, ap_r_q14_r_q9, ap_r_q14_r_q22, ap_r_q14_r_q27, ap_r_q14_r_q32, ap_r_q14_r_q37, ap_r_q22_r_q4, ap_r_q22_r_q9, ap_r_q22_r_q14, ap_r_q22_r_q27, ap_r_q22_r_q32, ap_r_q22_r_q37, ap_r_q27_r_q4, ap_r_q27_r_q9, ap_r_q27_r_q14, ap_r_q27_r_q22, ap_r_q27_r_q32, ap_r_q27_r_q37, ap_r_q32_r_q4, ap_r_q32_r_q9, ap_r_q32_r_q14, ap_r_q32_r_q22, ap_r_q32_r_q27, ap_r_q32_r_q37, ap_r_q37_r_q4, ap_r_q37_r_q9, ap_r_q37_r_q14, ap_r_q37_r_q22, ap_r_q37_r_q27, ap_r_q37_r_q32, ap_r_q47_r_q52, ap_r_q47_r_q57, ap_r_q52_r_q47, ap_r_q52_r_q57, ap_r_q57_r_q47, ap_r_q57_r_q52, hb⟩ hc
      exact ⟨obj_ch o_x8 hc (fun h => Nat.not_lt.2 h.1 lt_x8_0), obj_ch o_cb8 hc (fun h => Nat.not_lt.2 h.1 lt_cb8_0), obj_ch o_cb13 hc (fun h => Nat.not_lt.2 h.1 lt_cb13_0), obj_ch o_cb18 hc (fun h => Nat.not_lt.2 h.1 lt_cb18_0), obj_ch o_cb26 hc (fun h => Nat.not_lt.2 h.1 lt_cb26_0), obj_ch o_cb31 hc (fun h => Nat.not_lt.2 h.1 lt_cb31_0), obj_ch o_cb36 hc (fun h => Nat.not_lt.2 h.1 lt_cb36_0), obj_ch o_cb41 hc (fun h => Nat.not_lt.2 h.1 lt_cb41_0), obj_ch o_cb46 hc (fun h => Nat.not_lt.2 h.1 lt_cb46_0), obj_ch o_cb51 hc (fun h => Nat.not_lt.2 h.1 lt_cb51_0), obj_ch o_cb56 hc (fun h => Nat.not_lt.2 h.1 lt_cb56_0), obj_ch o_cb61 hc (fun h => Nat.not_lt.2 h.1 lt_cb61_0), obj_ch o_cb73 hc (fun h => Nat.not_lt.2 h.1 lt_cb73_0), obj_ch o_cb77 hc (fun h => Nat.not_lt.2 h.1 lt_cb77_0), r_q4.ch hc nr_r_q4, nr_r_q4, r_q9.ch hc nr_r_q9, nr_r_q9, r_q14.ch hc nr_r_q14, nr_r_q14, r_q22.ch hc nr_r_q22, nr_r_q22, r_q27.ch hc nr_r_q27, nr_r_q27, r_q32.ch hc nr_r_q32, nr_r_q32, r_q37.ch hc nr_r_q37, nr_r_q37, r_q42.ch hc nr_r_q42, nr_r_q42, r_q47.ch hc nr_r_q47, nr_r_q47, r_q52.ch hc nr_r_q52, nr_r_q52, r_q57.ch hc nr_r_q57, nr_r_q57, ap_r_q4_r_q9, ap_r_q4_r_q14, ap_r_q4_r_q22, ap_r_q4_r_q27, ap_r_q4_r_q32, ap_r_q4_r_q37, ap_r_q9_r_q4, ap_r_q9_r_q14, ap_r_q9_r_q22, ap_r_q9_r_q27, ap_r_q9_r_q32, ap_r_q9_r_q37, ap_r_q14_r_q4, ap_r_q14_r_q9, ap_r_q14_r_q22, ap_r_q14_r_q27, ap_r_q14_r_q32, ap_r_q14_r_q37, ap_r_q22_r_q4, ap_r_q22_r_q9, ap_r_q22_r_q14, ap_r_q22_r_q27, ap_r_q22_r_q32, ap_r_q22_r_q37, ap_r_q27_r_q4, ap_r_q27_r_q9, ap_r_q27_r_q14, ap_r_q27_r_q22, ap_r_q27_r_q32, ap_r_q27_r_q37, ap_r_q32_r_q4, ap_r_q32_r_q9, ap_r_q32_r_q14, ap_r_q32_r_q22, ap_r_q32_r_q27, ap_r_q32_r_q37, ap_r_q37_r_q4, ap_r_q37_r_q9, ap_r_q37_r_q14, ap_r_q37_r_q22, ap_r_q37_r_q27, ap_r_q37_r_q32, ap_r_q47_r_q52, ap_r_q47_r_q57, ap_r_q52_r_q47, ap_r_q52_r_q57, ap_r_q57_r_q47, ap_r_q57_r_q52, hc.below hb hb.size (fun k h => Nat.le_trans hs_0 h.1)⟩
    · intro K c _ A B h hc; exact h.elim
    · intro l K pre x A hi hN hK0 hK hpre
      obtain ⟨o_x8, o_cb8, o_cb13, o_cb18, o_cb26, o_cb31, o_cb36, o_cb41, o_cb46, o_cb51, o_cb56, o_cb61, o_cb73, o_cb77, r_q4, nr_r_q4, r_q9, nr_r_q9, r_q14, nr_r_q14, r_q22, nr_r_q22, r_q27, nr_r_q27, r_q32, nr_r_q32, r_q37, nr_r_q37, r_q42, nr_r_q42, r_q47, nr_r_q47, r_q52, nr_r_q52, r_q57, nr_r_q57, ap_r_q4_r_q9, ap_r_q4_r_q14, ap_r_q4_r_q22, ap_r_q4_r_q27, ap_r_q4_r_q32, ap_r_q4_r_q37, ap_r_q9_r_q4, ap_r_q9_r_q14, ap_r_q9_r_q22, ap_r_q9_r_q27, ap_r_q9_r_q32, ap_r_q9_r_q37, ap_r_q14_r_q4, ap_r_q14_r_q9, ap_r_q14_r_q22, ap_r_q14_r_q27, ap_r_q14_r_q32, ap_r_q14_r_q37, ap_r_q22_r_q4, ap_r_q22_r_q9, ap_r_q22_r_q14, ap_r_q22_r_q27, ap_r_q22_r_q32, ap_r_q22_r_q37, ap_r_q27_r_q4, ap_r_q27_r_q9, ap_r_q27_r_q14, ap_r_q27_r_q22, ap_r_q27_r_q32, ap_r_q27_r_q37, ap_r_q32_r_q4, ap_r_q32_r_q9, ap_r_q32_r_q14, ap_r_q32_r_q22, ap_r_q32_r_q27, ap_r_q32_r_q37, ap_r_q37_r_q4, ap_r_q37_r_q9, ap_r_q37_r_q14, ap_r_q37_r_q22, ap_r_q37_r_q27, ap_r_q37_r_q32, ap_r_q47_r_q52, ap_r_q47_r_q57, ap_r_q52_r_q47, ap_r_q52_r_q57, ap_r_q57_r_q47, ap_r_q57_r_q52, hb⟩ := hi
      have hs := hb.size
      have hk := Kp.refl (w74.heap.size) K A
      have nv_x8 : ¬ Iv (w74.heap.size) K b1 := fun h => Nat.not_lt.2 h.1 lt_x8_0
      have nv_cb8 : ¬ Iv (w74.heap.size) K cb8 := fun h => Nat.not_lt.2 h.1 lt_cb8_0
      have nv_cb13 : ¬ Iv (w74.heap.size) K cb13 := fun h => Nat.not_lt.2 h.1 lt_cb13_0
      have nv_cb18 : ¬ Iv (w74.heap.size) K cb18 := fun h => Nat.not_lt.2 h.1 lt_cb18_0
      have nv_cb26 : ¬ Iv (w74.heap.size) K cb26 := fun h => Nat.not_lt.2 h.1 lt_cb26_0
      have nv_cb31 : ¬ Iv (w74.heap.size) K cb31 := fun h => Nat.not_lt.2 h.1 lt_cb31_0
      have nv_cb36 : ¬ Iv (w74.heap.size) K cb36 := fun h => Nat.not_lt.2 h.1 lt_cb36_0
      have nv_cb41 : ¬ Iv (w74.heap.size) K cb41 := fun h => Nat.not_lt.2 h.1 lt_cb41_0
      have nv_cb46 : ¬ Iv (w74.heap.size) K cb46 := fun h => Nat.not_lt.2 h.1 lt_cb46_0
      have nv_cb51 : ¬ Iv (w74.heap.size) K cb51 := fun h => Nat.not_lt.2 h.1 lt_cb51_0
      have nv_cb56 : ¬ Iv (w74.heap.size) K cb56 := fun h => Nat.not_lt.2 h.1 lt_cb56_0
      have nv_cb61 : ¬ Iv (w74.heap.size) K cb61 := fun h => Nat.not_lt.2 h.1 lt_cb61_0
      have nv_cb73 : ¬ Iv (w74.heap.size) K cb73 := fun h => Nat.not_lt.2 h.1 lt_cb73_0
      have nv_cb77 : ¬ Iv (w74.heap.size) K cb77 := fun h => Nat.not_lt.2 h.1 lt_cb77_0
      have p_a := in_p_a.below hb
      have p_b := in_p_b.below hb
      have p_c := in_p_c.below hb
      have p_val := in_p_val.below hb
      replace o_cb77 := hN.1
      replace o_cb61 := hN.2.1
      refine W_region (L_as (L_nil ?_))
      refine thenQ_normal ⟨hk, ?_⟩
      intro w78 hc79
      replace o_x8 := obj_ch o_x8 hc79 nv_x8
      replace o_cb8 := obj_ch o_cb8 hc79 nv_cb8
      replace o_cb13 := obj_ch o_cb13 hc79 nv_cb13
      replace o_cb18 := obj_ch o_cb18 hc79 nv_cb18
      replace o_cb26 := obj_ch o_cb26 hc79 nv_cb26
      replace o_cb31 := obj_ch o_cb31 hc79 nv_cb31
      replace o_cb36 := obj_ch o_cb36 hc79 nv_cb36
      replace o_cb41 := obj_ch o_cb41 hc79 nv_cb41
      replace o_cb46 := obj_ch o_cb46 hc79 nv_cb46
      replace o_cb51 := obj_ch o_cb51 hc79 nv_cb51
      replace o_cb56 := obj_ch o_cb56 hc79 nv_cb56
      replace o_cb61 := obj_ch o_cb61 hc79 nv_cb61
      replace o_cb73 := obj_ch o_cb73 hc79 nv_cb73
      replace o_cb77 := obj_ch o_cb77 hc79 nv_cb77
      replace r_q4 := r_q4.ch hc79 nr_r_q4
      replace r_q9 := r_q9.ch hc79 nr_r_q9
      replace r_q14 := r_q14.ch hc79 nr_r_q14
      replace r_q22 := r_q22.ch hc79 nr_r_q22
      replace r_q27 := r_q27.ch hc79 nr_r_q27
      replace r_q32 := r_q32.ch hc79 nr_r_q32
      replace r_q37 := r_q37.ch hc79 nr_r_q37
      replace r_q42 := r_q42.ch hc79 nr_r_q42
      replace r_q47 := r_q47.ch hc79 nr_r_q47
      replace r_q52 := r_q52.ch hc79 nr_r_q52
      replace r_q57 := r_q57.ch hc79 nr_r_q57
      replace hb := hc79.below hb hs (fun k h => Nat.le_trans hs_0 h.1)
      replace p_a := in_p_a.below hb
      replace p_b := in_p_b.below hb
      replace p_c := in_p_c.below hb
      replace p_val := in_p_val.below hb
      replace hs := hb.size
      replace hK := Nat.le_trans hK hc79.size
      replace hk := Kp.refl (w74.heap.size) K w78
      refine W_block (W_seq (W_region (L_mv (L_sne x.2.2 ([] : List UInt8) rfl (by kernel_rfl) (by kernel_rfl) ?_ ?_))))
      · intro h80
        exfalso; exact h80 (turn_const eqS_law _ ox.rise (tk_mem hpre))
      · intro h81
        refine L_nil (thenQ_normal (W_false (by kernel_rfl) (W_skip (blkQ_normal ?_))))
        refine round_normal hk ⟨o_cb77, o_cb61, r_q57.rd⟩ ⟨o_x8, o_cb8, o_cb13, o_cb18, o_cb26, o_cb31, o_cb36, o_cb41, o_cb46, o_cb51, o_cb56, o_cb61, o_cb73, o_cb77, r_q4, nr_r_q4, r_q9, nr_r_q9, r_q14, nr_r_q14, r_q22, nr_r_q22, r_q27, nr_r_q27, r_q32, nr_r_q32, r_q37, nr_r_q37, r_q42, nr_r_q42, r_q47, nr_r_q47, r_q52, nr_r_q52, r_q57, nr_r_q57, ap_r_q4_r_q9, ap_r_q4_r_q14, ap_r_q4_r_q22, ap_r_q4_r_q27, ap_r_q4_r_q32, ap_r_q4_r_q37, ap_r_q9_r_q4, ap_r_q9_r_q14, ap_r_q9_r_q22, ap_r_q9_r_q27, ap_r_q9_r_q32, ap_r_q9_r_q37, ap_r_q14_r_q4, ap_r_q14_r_q9, ap_r_q14_r_q22, ap_r_q14_r_q27, ap_r_q14_r_q32, ap_r_q14_r_q37, ap_r_q22_r_q4, ap_r_q22_r_q9, ap_r_q22_r_q14, ap_r_q22_r_q27, ap_r_q22_r_q32, ap_r_q22_r_q37, ap_r_q27_r_q4, ap_r_q27_r_q9, ap_r_q27_r_q14, ap_r_q27_r_q22, ap_r_q27_r_q32, ap_r_q27_r_q37, ap_r_q32_r_q4, ap_r_q32_r_q9, ap_r_q32_r_q14, ap_r_q32_r_q22, ap_r_q32_r_q27, ap_r_q32_r_q37, ap_r_q37_r_q4, ap_r_q37_r_q9, ap_r_q37_r_q14, ap_r_q37_r_q22, ap_r_q37_r_q27, ap_r_q37_r_q32, ap_r_q47_r_q52, ap_r_q47_r_q57, ap_r_q52_r_q47, ap_r_q52_r_q57, ap_r_q57_r_q47, ap_r_q57_r_q52, hb⟩
    · intro K A hi hsz o_D0
      obtain ⟨o_x8, o_cb8, o_cb13, o_cb18, o_cb26, o_cb31, o_cb36, o_cb41, o_cb46, o_cb51, o_cb56, o_cb61, o_cb73, o_cb77, r_q4, nr_r_q4, r_q9, nr_r_q9, r_q14, nr_r_q14, r_q22, nr_r_q22, r_q27, nr_r_q27, r_q32, nr_r_q32, r_q37, nr_r_q37, r_q42, nr_r_q42, r_q47, nr_r_q47, r_q52, nr_r_q52, r_q57, nr_r_q57, ap_r_q4_r_q9, ap_r_q4_r_q14, ap_r_q4_r_q22, ap_r_q4_r_q27, ap_r_q4_r_q32, ap_r_q4_r_q37, ap_r_q9_r_q4, ap_r_q9_r_q14, ap_r_q9_r_q22, ap_r_q9_r_q27, ap_r_q9_r_q32, ap_r_q9_r_q37, ap_r_q14_r_q4, ap_r_q14_r_q9, ap_r_q14_r_q22, ap_r_q14_r_q27, ap_r_q14_r_q32, ap_r_q14_r_q37, ap_r_q22_r_q4, ap_r_q22_r_q9, ap_r_q22_r_q14, ap_r_q22_r_q27, ap_r_q22_r_q32, ap_r_q22_r_q37, ap_r_q27_r_q4, ap_r_q27_r_q9, ap_r_q27_r_q14, ap_r_q27_r_q22, ap_r_q27_r_q32, ap_r_q27_r_q37, ap_r_q32_r_q4, ap_r_q32_r_q9, ap_r_q32_r_q14, ap_r_q32_r_q22, ap_r_q32_r_q27, ap_r_q32_r_q37, ap_r_q37_r_q4, ap_r_q37_r_q9, ap_r_q37_r_q14, ap_r_q37_r_q22, ap_r_q37_r_q27, ap_r_q37_r_q32, ap_r_q47_r_q52, ap_r_q47_r_q57, ap_r_q52_r_q47, ap_r_q52_r_q57, ap_r_q57_r_q47, ap_r_q57_r_q52, hb⟩ := hi
      have p_a := in_p_a.below hb
      have p_b := in_p_b.below hb
      have p_c := in_p_c.below hb
      have p_val := in_p_val.below hb
      have ne_x8_D0 : b1 ≠ w74.heap.size := Nat.ne_of_lt lt_x8_0
      have ne_D0_x8 := ne_x8_D0.symm
      have ne_cb8_D0 : cb8 ≠ w74.heap.size := Nat.ne_of_lt lt_cb8_0
      have ne_D0_cb8 := ne_cb8_D0.symm
      have ne_cb13_D0 : cb13 ≠ w74.heap.size := Nat.ne_of_lt lt_cb13_0
      have ne_D0_cb13 := ne_cb13_D0.symm
      have ne_cb18_D0 : cb18 ≠ w74.heap.size := Nat.ne_of_lt lt_cb18_0
      have ne_D0_cb18 := ne_cb18_D0.symm
      have ne_cb26_D0 : cb26 ≠ w74.heap.size := Nat.ne_of_lt lt_cb26_0
      have ne_D0_cb26 := ne_cb26_D0.symm
      have ne_cb31_D0 : cb31 ≠ w74.heap.size := Nat.ne_of_lt lt_cb31_0
      have ne_D0_cb31 := ne_cb31_D0.symm
      have ne_cb36_D0 : cb36 ≠ w74.heap.size := Nat.ne_of_lt lt_cb36_0
      have ne_D0_cb36 := ne_cb36_D0.symm
      have ne_cb41_D0 : cb41 ≠ w74.heap.size := Nat.ne_of_lt lt_cb41_0
      have ne_D0_cb41 := ne_cb41_D0.symm
      have ne_cb46_D0 : cb46 ≠ w74.heap.size := Nat.ne_of_lt lt_cb46_0
      have ne_D0_cb46 := ne_cb46_D0.symm
      have ne_cb51_D0 : cb51 ≠ w74.heap.size := Nat.ne_of_lt lt_cb51_0
      have ne_D0_cb51 := ne_cb51_D0.symm
      have ne_cb56_D0 : cb56 ≠ w74.heap.size := Nat.ne_of_lt lt_cb56_0
      have ne_D0_cb56 := ne_cb56_D0.symm
      have ne_cb61_D0 : cb61 ≠ w74.heap.size := Nat.ne_of_lt lt_cb61_0
      have ne_D0_cb61 := ne_cb61_D0.symm
      have ne_cb73_D0 : cb73 ≠ w74.heap.size := Nat.ne_of_lt lt_cb73_0
      have ne_D0_cb73 := ne_cb73_D0.symm
      have ne_cb77_D0 : cb77 ≠ w74.heap.size := Nat.ne_of_lt lt_cb77_0
      have ne_D0_cb77 := ne_cb77_D0.symm
      have hs : w.heap.size ≤ _ := hb.size
      refine blkQ_normal (thenQ_normal (W_seq (W_region (L_mv (L_mv (L_call 39 [(.pointer (some ⟨cb31, 0, none⟩)), (.pointer (some ⟨cb41, 0, none⟩))] (by kernel_rfl) (by kernel_rfl) (c_same_I cb31 q27 (overF eqI (overF eqI (ofG a val) (ofG b val)) (ofG c val)) cb41 q37 (overF eqI (ofG a val) (overF eqI (ofG b val) (ofG c val))) _ o_cb31 r_q27.rd o_cb41 r_q37.rd (by first | exact Nat.le_trans (overF_rise _ _).len (by decide) | exact Nat.le_trans (turnAll_rise _ _).len (by decide) | exact Nat.le_trans ox.rise.len (by decide)) (by first | exact Nat.le_trans (overF_rise _ _).len (by decide) | exact Nat.le_trans (turnAll_rise _ _).len (by decide) | exact Nat.le_trans ox.rise.len (by decide))) ?_))))))
      rintro _ w82 ⟨rfl, hB83⟩
      replace hb := hb.trans (hB83.mono hs)
      replace hs := Nat.le_trans hs (hB83.size)
      replace o_x8 := obj_below o_x8 hB83
      replace o_cb8 := obj_below o_cb8 hB83
      replace o_cb13 := obj_below o_cb13 hB83
      replace o_cb18 := obj_below o_cb18 hB83
      replace o_cb26 := obj_below o_cb26 hB83
      replace o_cb31 := obj_below o_cb31 hB83
      replace o_cb36 := obj_below o_cb36 hB83
      replace o_cb41 := obj_below o_cb41 hB83
      replace o_cb46 := obj_below o_cb46 hB83
      replace o_cb51 := obj_below o_cb51 hB83
      replace o_cb56 := obj_below o_cb56 hB83
      replace o_cb61 := obj_below o_cb61 hB83
      replace o_cb73 := obj_below o_cb73 hB83
      replace o_cb77 := obj_below o_cb77 hB83
      replace o_D0 := obj_below o_D0 hB83
      replace p_a := p_a.below hB83
      replace p_b := p_b.below hB83
      replace p_c := p_c.below hB83
      replace p_val := p_val.below hB83
      replace r_q4 := r_q4.below hB83
      replace r_q9 := r_q9.below hB83
      replace r_q14 := r_q14.below hB83
      replace r_q22 := r_q22.below hB83
      replace r_q27 := r_q27.below hB83
      replace r_q32 := r_q32.below hB83
      replace r_q37 := r_q37.below hB83
      replace r_q42 := r_q42.below hB83
      replace r_q47 := r_q47.below hB83
      replace r_q52 := r_q52.below hB83
      replace r_q57 := r_q57.below hB83
      refine put_split (decide ((overF eqI (overF eqI (ofG a val) (ofG b val)) (ofG c val)) = (overF eqI (ofG a val) (overF eqI (ofG b val) (ofG c val))))) ?_ ?_
      · intro h85
        refine L_mv (L_want (by kernel_rfl) (L_mv (L_want (by kernel_rfl) (L_mv (L_want (by kernel_rfl) (L_call 29 [(.pointer (some ⟨cb8, 0, none⟩)), (.pointer (some ⟨cb8, 0, none⟩))] (by kernel_rfl) (by kernel_rfl) (c_over_I cb8 q4 (ofG a val) cb8 q4 (ofG a val) _ o_cb8 r_q4.rd o_cb8 r_q4.rd (by first | exact ox.rise | exact oy.rise | exact oz.rise | exact overF_rise _ _ | exact turnAll_rise _ _) (by first | exact ox.rise | exact oy.rise | exact oz.rise | exact overF_rise _ _ | exact turnAll_rise _ _)) ?_))))))
        rintro _ w87 ⟨q86, cb90, rfl, r_q86, o_cb90, g_cb90, hB88⟩
        have ne_x8_cb90 : b1 ≠ cb90 := by have := (obj_lt o_x8); omega
        have ne_cb90_x8 := ne_x8_cb90.symm
        have ne_cb8_cb90 : cb8 ≠ cb90 := by have := (obj_lt o_cb8); omega
        have ne_cb90_cb8 := ne_cb8_cb90.symm
        have ne_cb13_cb90 : cb13 ≠ cb90 := by have := (obj_lt o_cb13); omega
        have ne_cb90_cb13 := ne_cb13_cb90.symm
        have ne_cb18_cb90 : cb18 ≠ cb90 := by have := (obj_lt o_cb18); omega
        have ne_cb90_cb18 := ne_cb18_cb90.symm
        have ne_cb26_cb90 : cb26 ≠ cb90 := by have := (obj_lt o_cb26); omega
        have ne_cb90_cb26 := ne_cb26_cb90.symm
        have ne_cb31_cb90 : cb31 ≠ cb90 := by have := (obj_lt o_cb31); omega
        have ne_cb90_cb31 := ne_cb31_cb90.symm
        have ne_cb36_cb90 : cb36 ≠ cb90 := by have := (obj_lt o_cb36); omega
        have ne_cb90_cb36 := ne_cb36_cb90.symm
        have ne_cb41_cb90 : cb41 ≠ cb90 := by have := (obj_lt o_cb41); omega
        have ne_cb90_cb41 := ne_cb41_cb90.symm
        have ne_cb46_cb90 : cb46 ≠ cb90 := by have := (obj_lt o_cb46); omega
        have ne_cb90_cb46 := ne_cb46_cb90.symm
        have ne_cb51_cb90 : cb51 ≠ cb90 := by have := (obj_lt o_cb51); omega
        have ne_cb90_cb51 := ne_cb51_cb90.symm
        have ne_cb56_cb90 : cb56 ≠ cb90 := by have := (obj_lt o_cb56); omega
        have ne_cb90_cb56 := ne_cb56_cb90.symm
        have ne_cb61_cb90 : cb61 ≠ cb90 := by have := (obj_lt o_cb61); omega
        have ne_cb90_cb61 := ne_cb61_cb90.symm
        have ne_cb73_cb90 : cb73 ≠ cb90 := by have := (obj_lt o_cb73); omega
        have ne_cb90_cb73 := ne_cb73_cb90.symm
        have ne_cb77_cb90 : cb77 ≠ cb90 := by have := (obj_lt o_cb77); omega
        have ne_cb90_cb77 := ne_cb77_cb90.symm
        have ne_D0_cb90 : w74.heap.size ≠ cb90 := by have := (obj_lt o_D0); omega
        have ne_cb90_D0 := ne_D0_cb90.symm
        replace g_cb90 := Nat.le_trans hs g_cb90
        have ap_r_q86_r_q4 := ap_call r_q86 r_q4; have ap_r_q4_r_q86 := ap_comm ap_r_q86_r_q4
        have ap_r_q86_r_q9 := ap_call r_q86 r_q9; have ap_r_q9_r_q86 := ap_comm ap_r_q86_r_q9
        have ap_r_q86_r_q14 := ap_call r_q86 r_q14; have ap_r_q14_r_q86 := ap_comm ap_r_q86_r_q14
        have ap_r_q86_r_q22 := ap_call r_q86 r_q22; have ap_r_q22_r_q86 := ap_comm ap_r_q86_r_q22
        have ap_r_q86_r_q27 := ap_call r_q86 r_q27; have ap_r_q27_r_q86 := ap_comm ap_r_q86_r_q27
        have ap_r_q86_r_q32 := ap_call r_q86 r_q32; have ap_r_q32_r_q86 := ap_comm ap_r_q86_r_q32
        have ap_r_q86_r_q37 := ap_call r_q86 r_q37; have ap_r_q37_r_q86 := ap_comm ap_r_q86_r_q37
        replace r_q86 := r_q86.base hs
        replace hb := hb.trans (hB88.mono hs)
        replace hs := Nat.le_trans hs (hB88.size)
        replace o_x8 := obj_below o_x8 hB88
        replace o_cb8 := obj_below o_cb8 hB88
        replace o_cb13 := obj_below o_cb13 hB88
        replace o_cb18 := obj_below o_cb18 hB88
        replace o_cb26 := obj_below o_cb26 hB88
        replace o_cb31 := obj_below o_cb31 hB88
        replace o_cb36 := obj_below o_cb36 hB88
        replace o_cb41 := obj_below o_cb41 hB88
        replace o_cb46 := obj_below o_cb46 hB88
        replace o_cb51 := obj_below o_cb51 hB88
        replace o_cb56 := obj_below o_cb56 hB88
        replace o_cb61 := obj_below o_cb61 hB88
        replace o_cb73 := obj_below o_cb73 hB88
        replace o_cb77 := obj_below o_cb77 hB88
        replace o_D0 := obj_below o_D0 hB88
        replace p_a := p_a.below hB88
        replace p_b := p_b.below hB88
        replace p_c := p_c.below hB88
        replace p_val := p_val.below hB88
        replace r_q4 := r_q4.below hB88
        replace r_q9 := r_q9.below hB88
        replace r_q14 := r_q14.below hB88
        replace r_q22 := r_q22.below hB88
        replace r_q27 := r_q27.below hB88
        replace r_q32 := r_q32.below hB88
        replace r_q37 := r_q37.below hB88
        replace r_q42 := r_q42.below hB88
        replace r_q47 := r_q47.below hB88
        replace r_q52 := r_q52.below hB88
        replace r_q57 := r_q57.below hB88
        refine L_want (by kernel_rfl) (L_mv (L_want (by kernel_rfl) (L_call 39 [(.pointer (some ⟨cb90, 0, none⟩)), (.pointer (some ⟨cb8, 0, none⟩))] (by kernel_rfl) (by kernel_rfl) (c_same_I cb90 q86 (overF eqI (ofG a val) (ofG a val)) cb8 q4 (ofG a val) _ o_cb90 r_q86.rd o_cb8 r_q4.rd (by first | exact Nat.le_trans (overF_rise _ _).len (by decide) | exact Nat.le_trans (turnAll_rise _ _).len (by decide) | exact Nat.le_trans ox.rise.len (by decide)) (by first | exact Nat.le_trans (overF_rise _ _).len (by decide) | exact Nat.le_trans (turnAll_rise _ _).len (by decide) | exact Nat.le_trans ox.rise.len (by decide))) ?_)))
        rintro _ w91 ⟨rfl, hB92⟩
        replace hb := hb.trans (hB92.mono hs)
        replace hs := Nat.le_trans hs (hB92.size)
        replace o_x8 := obj_below o_x8 hB92
        replace o_cb8 := obj_below o_cb8 hB92
        replace o_cb13 := obj_below o_cb13 hB92
        replace o_cb18 := obj_below o_cb18 hB92
        replace o_cb26 := obj_below o_cb26 hB92
        replace o_cb31 := obj_below o_cb31 hB92
        replace o_cb36 := obj_below o_cb36 hB92
        replace o_cb41 := obj_below o_cb41 hB92
        replace o_cb46 := obj_below o_cb46 hB92
        replace o_cb51 := obj_below o_cb51 hB92
        replace o_cb56 := obj_below o_cb56 hB92
        replace o_cb61 := obj_below o_cb61 hB92
        replace o_cb73 := obj_below o_cb73 hB92
        replace o_cb77 := obj_below o_cb77 hB92
        replace o_D0 := obj_below o_D0 hB92
        replace o_cb90 := obj_below o_cb90 hB92
        replace p_a := p_a.below hB92
        replace p_b := p_b.below hB92
        replace p_c := p_c.below hB92
        replace p_val := p_val.below hB92
        replace r_q4 := r_q4.below hB92
        replace r_q9 := r_q9.below hB92
        replace r_q14 := r_q14.below hB92
        replace r_q22 := r_q22.below hB92
        replace r_q27 := r_q27.below hB92
        replace r_q32 := r_q32.below hB92
        replace r_q37 := r_q37.below hB92
        replace r_q42 := r_q42.below hB92
        replace r_q47 := r_q47.below hB92
        replace r_q52 := r_q52.below hB92
        replace r_q57 := r_q57.below hB92
        replace r_q86 := r_q86.below hB92
        refine put_split (decide ((overF eqI (ofG a val) (ofG a val)) = (ofG a val))) ?_ ?_
        · intro h94
          refine L_pickT (by kernel_rfl) (L_mv (L_want (by kernel_rfl) (L_mv (L_want (by kernel_rfl) (L_mv (L_want (by kernel_rfl) (L_call 40 [(.pointer (some ⟨cb51, 0, none⟩)), (.pointer (some ⟨cb56, 0, none⟩))] (by kernel_rfl) (by kernel_rfl) (c_same_S cb51 q47 (turnAll eqS tellB (turnAll eqB evenB (ofG a val))) cb56 q52 (turnAll eqS (fun v => tellB (evenB v)) (ofG a val)) _ o_cb51 r_q47.rd o_cb56 r_q52.rd (by first | exact Nat.le_trans (overF_rise _ _).len (by decide) | exact Nat.le_trans (turnAll_rise _ _).len (by decide) | exact Nat.le_trans ox.rise.len (by decide)) (by first | exact Nat.le_trans (overF_rise _ _).len (by decide) | exact Nat.le_trans (turnAll_rise _ _).len (by decide) | exact Nat.le_trans ox.rise.len (by decide))) ?_)))))))
          rintro _ w95 ⟨rfl, hB96⟩
          replace hb := hb.trans (hB96.mono hs)
          replace hs := Nat.le_trans hs (hB96.size)
          replace o_x8 := obj_below o_x8 hB96
          replace o_cb8 := obj_below o_cb8 hB96
          replace o_cb13 := obj_below o_cb13 hB96
          replace o_cb18 := obj_below o_cb18 hB96
          replace o_cb26 := obj_below o_cb26 hB96
          replace o_cb31 := obj_below o_cb31 hB96
          replace o_cb36 := obj_below o_cb36 hB96
          replace o_cb41 := obj_below o_cb41 hB96
          replace o_cb46 := obj_below o_cb46 hB96
          replace o_cb51 := obj_below o_cb51 hB96
          replace o_cb56 := obj_below o_cb56 hB96
          replace o_cb61 := obj_below o_cb61 hB96
          replace o_cb73 := obj_below o_cb73 hB96
          replace o_cb77 := obj_below o_cb77 hB96
          replace o_D0 := obj_below o_D0 hB96
          replace o_cb90 := obj_below o_cb90 hB96
          replace p_a := p_a.below hB96
          replace p_b := p_b.below hB96
          replace p_c := p_c.below hB96
          replace p_val := p_val.below hB96
          replace r_q4 := r_q4.below hB96
          replace r_q9 := r_q9.below hB96
          replace r_q14 := r_q14.below hB96
          replace r_q22 := r_q22.below hB96
          replace r_q27 := r_q27.below hB96
          replace r_q32 := r_q32.below hB96
          replace r_q37 := r_q37.below hB96
          replace r_q42 := r_q42.below hB96
          replace r_q47 := r_q47.below hB96
          replace r_q52 := r_q52.below hB96
          replace r_q57 := r_q57.below hB96
          replace r_q86 := r_q86.below hB96
          refine put_split (decide ((turnAll eqS tellB (turnAll eqB evenB (ofG a val))) = (turnAll eqS (fun v => tellB (evenB v)) (ofG a val)))) ?_ ?_
          · intro h98
            refine L_pickT (by kernel_rfl) (L_mv (L_want (by kernel_rfl) (L_mv (L_want (by kernel_rfl) (L_call 29 [(.pointer none), (.pointer (some ⟨cb8, 0, none⟩))] (by kernel_rfl) (by kernel_rfl) (c_over_nl_I cb8 q4 (ofG a val) _ o_cb8 r_q4.rd (by first | exact ox.rise | exact oy.rise | exact oz.rise | exact overF_rise _ _ | exact turnAll_rise _ _)) ?_)))))
            rintro _ w100 ⟨q99, cb103, rfl, r_q99, o_cb103, g_cb103, hB101⟩
            have ne_x8_cb103 : b1 ≠ cb103 := by have := (obj_lt o_x8); omega
            have ne_cb103_x8 := ne_x8_cb103.symm
            have ne_cb8_cb103 : cb8 ≠ cb103 := by have := (obj_lt o_cb8); omega
            have ne_cb103_cb8 := ne_cb8_cb103.symm
            have ne_cb13_cb103 : cb13 ≠ cb103 := by have := (obj_lt o_cb13); omega
            have ne_cb103_cb13 := ne_cb13_cb103.symm
            have ne_cb18_cb103 : cb18 ≠ cb103 := by have := (obj_lt o_cb18); omega
            have ne_cb103_cb18 := ne_cb18_cb103.symm
            have ne_cb26_cb103 : cb26 ≠ cb103 := by have := (obj_lt o_cb26); omega
            have ne_cb103_cb26 := ne_cb26_cb103.symm
            have ne_cb31_cb103 : cb31 ≠ cb103 := by have := (obj_lt o_cb31); omega
            have ne_cb103_cb31 := ne_cb31_cb103.symm
            have ne_cb36_cb103 : cb36 ≠ cb103 := by have := (obj_lt o_cb36); omega
            have ne_cb103_cb36 := ne_cb36_cb103.symm
            have ne_cb41_cb103 : cb41 ≠ cb103 := by have := (obj_lt o_cb41); omega
            have ne_cb103_cb41 := ne_cb41_cb103.symm
            have ne_cb46_cb103 : cb46 ≠ cb103 := by have := (obj_lt o_cb46); omega
            have ne_cb103_cb46 := ne_cb46_cb103.symm
            have ne_cb51_cb103 : cb51 ≠ cb103 := by have := (obj_lt o_cb51); omega
            have ne_cb103_cb51 := ne_cb51_cb103.symm
            have ne_cb56_cb103 : cb56 ≠ cb103 := by have := (obj_lt o_cb56); omega
            have ne_cb103_cb56 := ne_cb56_cb103.symm
            have ne_cb61_cb103 : cb61 ≠ cb103 := by have := (obj_lt o_cb61); omega
            have ne_cb103_cb61 := ne_cb61_cb103.symm
            have ne_cb73_cb103 : cb73 ≠ cb103 := by have := (obj_lt o_cb73); omega
            have ne_cb103_cb73 := ne_cb73_cb103.symm
            have ne_cb77_cb103 : cb77 ≠ cb103 := by have := (obj_lt o_cb77); omega
            have ne_cb103_cb77 := ne_cb77_cb103.symm
            have ne_D0_cb103 : w74.heap.size ≠ cb103 := by have := (obj_lt o_D0); omega
            have ne_cb103_D0 := ne_D0_cb103.symm
            have ne_cb90_cb103 : cb90 ≠ cb103 := by have := (obj_lt o_cb90); omega
            have ne_cb103_cb90 := ne_cb90_cb103.symm
            replace g_cb103 := Nat.le_trans hs g_cb103
            have ap_r_q99_r_q4 := ap_call r_q99 r_q4; have ap_r_q4_r_q99 := ap_comm ap_r_q99_r_q4
            have ap_r_q99_r_q9 := ap_call r_q99 r_q9; have ap_r_q9_r_q99 := ap_comm ap_r_q99_r_q9
            have ap_r_q99_r_q14 := ap_call r_q99 r_q14; have ap_r_q14_r_q99 := ap_comm ap_r_q99_r_q14
            have ap_r_q99_r_q22 := ap_call r_q99 r_q22; have ap_r_q22_r_q99 := ap_comm ap_r_q99_r_q22
            have ap_r_q99_r_q27 := ap_call r_q99 r_q27; have ap_r_q27_r_q99 := ap_comm ap_r_q99_r_q27
            have ap_r_q99_r_q32 := ap_call r_q99 r_q32; have ap_r_q32_r_q99 := ap_comm ap_r_q99_r_q32
            have ap_r_q99_r_q37 := ap_call r_q99 r_q37; have ap_r_q37_r_q99 := ap_comm ap_r_q99_r_q37
            have ap_r_q99_r_q86 := ap_call r_q99 r_q86; have ap_r_q86_r_q99 := ap_comm ap_r_q99_r_q86
            replace r_q99 := r_q99.base hs
            replace hb := hb.trans (hB101.mono hs)
            replace hs := Nat.le_trans hs (hB101.size)
            replace o_x8 := obj_below o_x8 hB101
            replace o_cb8 := obj_below o_cb8 hB101
            replace o_cb13 := obj_below o_cb13 hB101
            replace o_cb18 := obj_below o_cb18 hB101
            replace o_cb26 := obj_below o_cb26 hB101
            replace o_cb31 := obj_below o_cb31 hB101
            replace o_cb36 := obj_below o_cb36 hB101
            replace o_cb41 := obj_below o_cb41 hB101
            replace o_cb46 := obj_below o_cb46 hB101
            replace o_cb51 := obj_below o_cb51 hB101
            replace o_cb56 := obj_below o_cb56 hB101
            replace o_cb61 := obj_below o_cb61 hB101
            replace o_cb73 := obj_below o_cb73 hB101
            replace o_cb77 := obj_below o_cb77 hB101
            replace o_D0 := obj_below o_D0 hB101
            replace o_cb90 := obj_below o_cb90 hB101
            replace p_a := p_a.below hB101
            replace p_b := p_b.below hB101
            replace p_c := p_c.below hB101
            replace p_val := p_val.below hB101
            replace r_q4 := r_q4.below hB101
            replace r_q9 := r_q9.below hB101
            replace r_q14 := r_q14.below hB101
            replace r_q22 := r_q22.below hB101
            replace r_q27 := r_q27.below hB101
            replace r_q32 := r_q32.below hB101
            replace r_q37 := r_q37.below hB101
            replace r_q42 := r_q42.below hB101
            replace r_q47 := r_q47.below hB101
            replace r_q52 := r_q52.below hB101
            replace r_q57 := r_q57.below hB101
            replace r_q86 := r_q86.below hB101
            refine L_want (by kernel_rfl) (L_mv (L_want (by kernel_rfl) (L_call 39 [(.pointer (some ⟨cb103, 0, none⟩)), (.pointer (some ⟨cb8, 0, none⟩))] (by kernel_rfl) (by kernel_rfl) (c_same_I cb103 q99 (overF eqI ([] : List SpI) (ofG a val)) cb8 q4 (ofG a val) _ o_cb103 r_q99.rd o_cb8 r_q4.rd (by first | exact Nat.le_trans (overF_rise _ _).len (by decide) | exact Nat.le_trans (turnAll_rise _ _).len (by decide) | exact Nat.le_trans ox.rise.len (by decide)) (by first | exact Nat.le_trans (overF_rise _ _).len (by decide) | exact Nat.le_trans (turnAll_rise _ _).len (by decide) | exact Nat.le_trans ox.rise.len (by decide))) ?_)))
            rintro _ w104 ⟨rfl, hB105⟩
            replace hb := hb.trans (hB105.mono hs)
            replace hs := Nat.le_trans hs (hB105.size)
            replace o_x8 := obj_below o_x8 hB105
            replace o_cb8 := obj_below o_cb8 hB105
            replace o_cb13 := obj_below o_cb13 hB105
            replace o_cb18 := obj_below o_cb18 hB105
            replace o_cb26 := obj_below o_cb26 hB105
            replace o_cb31 := obj_below o_cb31 hB105
            replace o_cb36 := obj_below o_cb36 hB105
            replace o_cb41 := obj_below o_cb41 hB105
            replace o_cb46 := obj_below o_cb46 hB105
            replace o_cb51 := obj_below o_cb51 hB105
            replace o_cb56 := obj_below o_cb56 hB105
            replace o_cb61 := obj_below o_cb61 hB105
            replace o_cb73 := obj_below o_cb73 hB105
            replace o_cb77 := obj_below o_cb77 hB105
            replace o_D0 := obj_below o_D0 hB105
            replace o_cb90 := obj_below o_cb90 hB105
            replace o_cb103 := obj_below o_cb103 hB105
            replace p_a := p_a.below hB105
            replace p_b := p_b.below hB105
            replace p_c := p_c.below hB105
            replace p_val := p_val.below hB105
            replace r_q4 := r_q4.below hB105
            replace r_q9 := r_q9.below hB105
            replace r_q14 := r_q14.below hB105
            replace r_q22 := r_q22.below hB105
            replace r_q27 := r_q27.below hB105
            replace r_q32 := r_q32.below hB105
            replace r_q37 := r_q37.below hB105
            replace r_q42 := r_q42.below hB105
            replace r_q47 := r_q47.below hB105
            replace r_q52 := r_q52.below hB105
            replace r_q57 := r_q57.below hB105
            replace r_q86 := r_q86.below hB105
            replace r_q99 := r_q99.below hB105
            refine put_split (decide ((overF eqI ([] : List SpI) (ofG a val)) = (ofG a val))) ?_ ?_
            · intro h107
              refine L_pickT (by kernel_rfl) (L_mv (L_want (by kernel_rfl) (L_mv (L_want (by kernel_rfl) (L_call 29 [(.pointer (some ⟨cb8, 0, none⟩)), (.pointer none)] (by kernel_rfl) (by kernel_rfl) (c_over_ln_I cb8 q4 (ofG a val) _ o_cb8 r_q4.rd (by first | exact ox.rise | exact oy.rise | exact oz.rise | exact overF_rise _ _ | exact turnAll_rise _ _)) ?_)))))
              rintro _ w109 ⟨q108, cb112, rfl, r_q108, o_cb112, g_cb112, hB110⟩
              have ne_x8_cb112 : b1 ≠ cb112 := by have := (obj_lt o_x8); omega
              have ne_cb112_x8 := ne_x8_cb112.symm
              have ne_cb8_cb112 : cb8 ≠ cb112 := by have := (obj_lt o_cb8); omega
              have ne_cb112_cb8 := ne_cb8_cb112.symm
              have ne_cb13_cb112 : cb13 ≠ cb112 := by have := (obj_lt o_cb13); omega
              have ne_cb112_cb13 := ne_cb13_cb112.symm
              have ne_cb18_cb112 : cb18 ≠ cb112 := by have := (obj_lt o_cb18); omega
              have ne_cb112_cb18 := ne_cb18_cb112.symm
              have ne_cb26_cb112 : cb26 ≠ cb112 := by have := (obj_lt o_cb26); omega
              have ne_cb112_cb26 := ne_cb26_cb112.symm
              have ne_cb31_cb112 : cb31 ≠ cb112 := by have := (obj_lt o_cb31); omega
              have ne_cb112_cb31 := ne_cb31_cb112.symm
              have ne_cb36_cb112 : cb36 ≠ cb112 := by have := (obj_lt o_cb36); omega
              have ne_cb112_cb36 := ne_cb36_cb112.symm
              have ne_cb41_cb112 : cb41 ≠ cb112 := by have := (obj_lt o_cb41); omega
              have ne_cb112_cb41 := ne_cb41_cb112.symm
              have ne_cb46_cb112 : cb46 ≠ cb112 := by have := (obj_lt o_cb46); omega
              have ne_cb112_cb46 := ne_cb46_cb112.symm
              have ne_cb51_cb112 : cb51 ≠ cb112 := by have := (obj_lt o_cb51); omega
              have ne_cb112_cb51 := ne_cb51_cb112.symm
              have ne_cb56_cb112 : cb56 ≠ cb112 := by have := (obj_lt o_cb56); omega
              have ne_cb112_cb56 := ne_cb56_cb112.symm
              have ne_cb61_cb112 : cb61 ≠ cb112 := by have := (obj_lt o_cb61); omega
              have ne_cb112_cb61 := ne_cb61_cb112.symm
              have ne_cb73_cb112 : cb73 ≠ cb112 := by have := (obj_lt o_cb73); omega
              have ne_cb112_cb73 := ne_cb73_cb112.symm
              have ne_cb77_cb112 : cb77 ≠ cb112 := by have := (obj_lt o_cb77); omega
              have ne_cb112_cb77 := ne_cb77_cb112.symm
              have ne_D0_cb112 : w74.heap.size ≠ cb112 := by have := (obj_lt o_D0); omega
              have ne_cb112_D0 := ne_D0_cb112.symm
              have ne_cb90_cb112 : cb90 ≠ cb112 := by have := (obj_lt o_cb90); omega
              have ne_cb112_cb90 := ne_cb90_cb112.symm
              have ne_cb103_cb112 : cb103 ≠ cb112 := by have := (obj_lt o_cb103); omega
              have ne_cb112_cb103 := ne_cb103_cb112.symm
              replace g_cb112 := Nat.le_trans hs g_cb112
              have ap_r_q108_r_q4 := ap_call r_q108 r_q4; have ap_r_q4_r_q108 := ap_comm ap_r_q108_r_q4
              have ap_r_q108_r_q9 := ap_call r_q108 r_q9; have ap_r_q9_r_q108 := ap_comm ap_r_q108_r_q9
              have ap_r_q108_r_q14 := ap_call r_q108 r_q14; have ap_r_q14_r_q108 := ap_comm ap_r_q108_r_q14
              have ap_r_q108_r_q22 := ap_call r_q108 r_q22; have ap_r_q22_r_q108 := ap_comm ap_r_q108_r_q22
              have ap_r_q108_r_q27 := ap_call r_q108 r_q27; have ap_r_q27_r_q108 := ap_comm ap_r_q108_r_q27
              have ap_r_q108_r_q32 := ap_call r_q108 r_q32; have ap_r_q32_r_q108 := ap_comm ap_r_q108_r_q32
              have ap_r_q108_r_q37 := ap_call r_q108 r_q37; have ap_r_q37_r_q108 := ap_comm ap_r_q108_r_q37
              have ap_r_q108_r_q86 := ap_call r_q108 r_q86; have ap_r_q86_r_q108 := ap_comm ap_r_q108_r_q86
              have ap_r_q108_r_q99 := ap_call r_q108 r_q99; have ap_r_q99_r_q108 := ap_comm ap_r_q108_r_q99
              replace r_q108 := r_q108.base hs
              replace hb := hb.trans (hB110.mono hs)
              replace hs := Nat.le_trans hs (hB110.size)
              replace o_x8 := obj_below o_x8 hB110
              replace o_cb8 := obj_below o_cb8 hB110
              replace o_cb13 := obj_below o_cb13 hB110
              replace o_cb18 := obj_below o_cb18 hB110
              replace o_cb26 := obj_below o_cb26 hB110
              replace o_cb31 := obj_below o_cb31 hB110
              replace o_cb36 := obj_below o_cb36 hB110
              replace o_cb41 := obj_below o_cb41 hB110
              replace o_cb46 := obj_below o_cb46 hB110
              replace o_cb51 := obj_below o_cb51 hB110
              replace o_cb56 := obj_below o_cb56 hB110
              replace o_cb61 := obj_below o_cb61 hB110
              replace o_cb73 := obj_below o_cb73 hB110
              replace o_cb77 := obj_below o_cb77 hB110
              replace o_D0 := obj_below o_D0 hB110
              replace o_cb90 := obj_below o_cb90 hB110
              replace o_cb103 := obj_below o_cb103 hB110
              replace p_a := p_a.below hB110
              replace p_b := p_b.below hB110
              replace p_c := p_c.below hB110
              replace p_val := p_val.below hB110
              replace r_q4 := r_q4.below hB110
              replace r_q9 := r_q9.below hB110
              replace r_q14 := r_q14.below hB110
              replace r_q22 := r_q22.below hB110
              replace r_q27 := r_q27.below hB110
              replace r_q32 := r_q32.below hB110
              replace r_q37 := r_q37.below hB110
              replace r_q42 := r_q42.below hB110
              replace r_q47 := r_q47.below hB110
              replace r_q52 := r_q52.below hB110
              replace r_q57 := r_q57.below hB110
              replace r_q86 := r_q86.below hB110
              replace r_q99 := r_q99.below hB110
              refine L_want (by kernel_rfl) (L_mv (L_want (by kernel_rfl) (L_call 39 [(.pointer (some ⟨cb112, 0, none⟩)), (.pointer (some ⟨cb8, 0, none⟩))] (by kernel_rfl) (by kernel_rfl) (c_same_I cb112 q108 (overF eqI (ofG a val) ([] : List SpI)) cb8 q4 (ofG a val) _ o_cb112 r_q108.rd o_cb8 r_q4.rd (by first | exact Nat.le_trans (overF_rise _ _).len (by decide) | exact Nat.le_trans (turnAll_rise _ _).len (by decide) | exact Nat.le_trans ox.rise.len (by decide)) (by first | exact Nat.le_trans (overF_rise _ _).len (by decide) | exact Nat.le_trans (turnAll_rise _ _).len (by decide) | exact Nat.le_trans ox.rise.len (by decide))) ?_)))
              rintro _ w113 ⟨rfl, hB114⟩
              replace hb := hb.trans (hB114.mono hs)
              replace hs := Nat.le_trans hs (hB114.size)
              replace o_x8 := obj_below o_x8 hB114
              replace o_cb8 := obj_below o_cb8 hB114
              replace o_cb13 := obj_below o_cb13 hB114
              replace o_cb18 := obj_below o_cb18 hB114
              replace o_cb26 := obj_below o_cb26 hB114
              replace o_cb31 := obj_below o_cb31 hB114
              replace o_cb36 := obj_below o_cb36 hB114
              replace o_cb41 := obj_below o_cb41 hB114
              replace o_cb46 := obj_below o_cb46 hB114
              replace o_cb51 := obj_below o_cb51 hB114
              replace o_cb56 := obj_below o_cb56 hB114
              replace o_cb61 := obj_below o_cb61 hB114
              replace o_cb73 := obj_below o_cb73 hB114
              replace o_cb77 := obj_below o_cb77 hB114
              replace o_D0 := obj_below o_D0 hB114
              replace o_cb90 := obj_below o_cb90 hB114
              replace o_cb103 := obj_below o_cb103 hB114
              replace o_cb112 := obj_below o_cb112 hB114
              replace p_a := p_a.below hB114
              replace p_b := p_b.below hB114
              replace p_c := p_c.below hB114
              replace p_val := p_val.below hB114
              replace r_q4 := r_q4.below hB114
              replace r_q9 := r_q9.below hB114
              replace r_q14 := r_q14.below hB114
              replace r_q22 := r_q22.below hB114
              replace r_q27 := r_q27.below hB114
              replace r_q32 := r_q32.below hB114
              replace r_q37 := r_q37.below hB114
              replace r_q42 := r_q42.below hB114
              replace r_q47 := r_q47.below hB114
              replace r_q52 := r_q52.below hB114
              replace r_q57 := r_q57.below hB114
              replace r_q86 := r_q86.below hB114
              replace r_q99 := r_q99.below hB114
              replace r_q108 := r_q108.below hB114
              refine put_split (decide ((overF eqI (ofG a val) ([] : List SpI)) = (ofG a val))) ?_ ?_
              · intro h116
                refine L_pickT (by kernel_rfl) (L_store b1 0 (.bool true) [(.bool false)] [(.bool true)] 4 (by kernel_rfl) (by kernel_rfl) rfl (by kernel_rfl) o_x8 (by simp) rfl ?_)
                intro w117 hW118
                replace hb := hb.trans (hW118.below g_x8)
                replace hs := Nat.le_trans hs (Nat.le_of_eq hW118.size.symm)
                have n_o_cb8 := obj_wrote o_cb8 hW118 (obj_ne o_cb8 o_x8 (by simp))
                have n_o_cb13 := obj_wrote o_cb13 hW118 (obj_ne o_cb13 o_x8 (by simp))
                have n_o_cb18 := obj_wrote o_cb18 hW118 (obj_ne o_cb18 o_x8 (by simp))
                have n_o_cb26 := obj_wrote o_cb26 hW118 (obj_ne o_cb26 o_x8 (by simp))
                have n_o_cb31 := obj_wrote o_cb31 hW118 (obj_ne o_cb31 o_x8 (by simp))
                have n_o_cb36 := obj_wrote o_cb36 hW118 (obj_ne o_cb36 o_x8 (by simp))
                have n_o_cb41 := obj_wrote o_cb41 hW118 (obj_ne o_cb41 o_x8 (by simp))
                have n_o_cb46 := obj_wrote o_cb46 hW118 (obj_ne o_cb46 o_x8 (by simp))
                have n_o_cb51 := obj_wrote o_cb51 hW118 (obj_ne o_cb51 o_x8 (by simp))
                have n_o_cb56 := obj_wrote o_cb56 hW118 (obj_ne o_cb56 o_x8 (by simp))
                have n_o_cb61 := obj_wrote o_cb61 hW118 (obj_ne o_cb61 o_x8 (by simp))
                have n_o_cb73 := obj_wrote o_cb73 hW118 (obj_ne o_cb73 o_x8 (by simp))
                have n_o_cb77 := obj_wrote o_cb77 hW118 (obj_ne o_cb77 o_x8 (by simp))
                have n_o_D0 := obj_wrote o_D0 hW118 (obj_ne o_D0 o_x8 (by simp))
                have n_o_cb90 := obj_wrote o_cb90 hW118 (obj_ne o_cb90 o_x8 (by simp))
                have n_o_cb103 := obj_wrote o_cb103 hW118 (obj_ne o_cb103 o_x8 (by simp))
                have n_o_cb112 := obj_wrote o_cb112 hW118 (obj_ne o_cb112 o_x8 (by simp))
                have n_p_a := in_p_a.below hb
                have n_p_b := in_p_b.below hb
                have n_p_c := in_p_c.below hb
                have n_p_val := in_p_val.below hb
                have n_r_q4 := r_q4.wrote hW118 (r_q4.ne o_x8 (by simp))
                have n_r_q9 := r_q9.wrote hW118 (r_q9.ne o_x8 (by simp))
                have n_r_q14 := r_q14.wrote hW118 (r_q14.ne o_x8 (by simp))
                have n_r_q22 := r_q22.wrote hW118 (r_q22.ne o_x8 (by simp))
                have n_r_q27 := r_q27.wrote hW118 (r_q27.ne o_x8 (by simp))
                have n_r_q32 := r_q32.wrote hW118 (r_q32.ne o_x8 (by simp))
                have n_r_q37 := r_q37.wrote hW118 (r_q37.ne o_x8 (by simp))
                have n_r_q42 := r_q42.wrote hW118 (r_q42.ne o_x8 (by simp))
                have n_r_q47 := r_q47.wrote hW118 (r_q47.ne o_x8 (by simp))
                have n_r_q52 := r_q52.wrote hW118 (r_q52.ne o_x8 (by simp))
                have n_r_q57 := r_q57.wrote hW118 (r_q57.ne o_x8 (by simp))
                have n_r_q86 := r_q86.wrote hW118 (r_q86.ne o_x8 (by simp))
                have n_r_q99 := r_q99.wrote hW118 (r_q99.ne o_x8 (by simp))
                have n_r_q108 := r_q108.wrote hW118 (r_q108.ne o_x8 (by simp))
                replace o_cb8 := n_o_cb8; clear n_o_cb8
                replace o_cb13 := n_o_cb13; clear n_o_cb13
                replace o_cb18 := n_o_cb18; clear n_o_cb18
                replace o_cb26 := n_o_cb26; clear n_o_cb26
                replace o_cb31 := n_o_cb31; clear n_o_cb31
                replace o_cb36 := n_o_cb36; clear n_o_cb36
                replace o_cb41 := n_o_cb41; clear n_o_cb41
                replace o_cb46 := n_o_cb46; clear n_o_cb46
                replace o_cb51 := n_o_cb51; clear n_o_cb51
                replace o_cb56 := n_o_cb56; clear n_o_cb56
                replace o_cb61 := n_o_cb61; clear n_o_cb61
                replace o_cb73 := n_o_cb73; clear n_o_cb73
                replace o_cb77 := n_o_cb77; clear n_o_cb77
                replace o_D0 := n_o_D0; clear n_o_D0
                replace o_cb90 := n_o_cb90; clear n_o_cb90
                replace o_cb103 := n_o_cb103; clear n_o_cb103
                replace o_cb112 := n_o_cb112; clear n_o_cb112
                replace p_a := n_p_a; clear n_p_a
                replace p_b := n_p_b; clear n_p_b
                replace p_c := n_p_c; clear n_p_c
                replace p_val := n_p_val; clear n_p_val
                replace r_q4 := n_r_q4; clear n_r_q4
                replace r_q9 := n_r_q9; clear n_r_q9
                replace r_q14 := n_r_q14; clear n_r_q14
                replace r_q22 := n_r_q22; clear n_r_q22
                replace r_q27 := n_r_q27; clear n_r_q27
                replace r_q32 := n_r_q32; clear n_r_q32
                replace r_q37 := n_r_q37; clear n_r_q37
                replace r_q42 := n_r_q42; clear n_r_q42
                replace r_q47 := n_r_q47; clear n_r_q47
                replace r_q52 := n_r_q52; clear n_r_q52
                replace r_q57 := n_r_q57; clear n_r_q57
                replace r_q86 := n_r_q86; clear n_r_q86
                replace r_q99 := n_r_q99; clear n_r_q99
                replace r_q108 := n_r_q108; clear n_r_q108
                replace o_x8 := hW118.here
                refine L_nil (thenQ_normal (W_ret (end_retM (ds := [⟨.collected w74.heap.size, #[]⟩]) (by kernel_rfl) (Lv_mark o_D0 ?_))))
                intro w119 hW120
                replace hb := hb.trans (hW120.below hs_0)
                replace hs := Nat.le_trans hs (Nat.le_of_eq hW120.size.symm)
                have n_o_x8 := obj_wrote o_x8 hW120 (obj_ne o_x8 o_D0 (by simp))
                have n_o_cb8 := obj_wrote o_cb8 hW120 (obj_ne o_cb8 o_D0 (by simp))
                have n_o_cb13 := obj_wrote o_cb13 hW120 (obj_ne o_cb13 o_D0 (by simp))
                have n_o_cb18 := obj_wrote o_cb18 hW120 (obj_ne o_cb18 o_D0 (by simp))
                have n_o_cb26 := obj_wrote o_cb26 hW120 (obj_ne o_cb26 o_D0 (by simp))
                have n_o_cb31 := obj_wrote o_cb31 hW120 (obj_ne o_cb31 o_D0 (by simp))
                have n_o_cb36 := obj_wrote o_cb36 hW120 (obj_ne o_cb36 o_D0 (by simp))
                have n_o_cb41 := obj_wrote o_cb41 hW120 (obj_ne o_cb41 o_D0 (by simp))
                have n_o_cb46 := obj_wrote o_cb46 hW120 (obj_ne o_cb46 o_D0 (by simp))
                have n_o_cb51 := obj_wrote o_cb51 hW120 (obj_ne o_cb51 o_D0 (by simp))
                have n_o_cb56 := obj_wrote o_cb56 hW120 (obj_ne o_cb56 o_D0 (by simp))
                have n_o_cb61 := obj_wrote o_cb61 hW120 (obj_ne o_cb61 o_D0 (by simp))
                have n_o_cb73 := obj_wrote o_cb73 hW120 (obj_ne o_cb73 o_D0 (by simp))
                have n_o_cb77 := obj_wrote o_cb77 hW120 (obj_ne o_cb77 o_D0 (by simp))
                have n_o_cb90 := obj_wrote o_cb90 hW120 (obj_ne o_cb90 o_D0 (by simp))
                have n_o_cb103 := obj_wrote o_cb103 hW120 (obj_ne o_cb103 o_D0 (by simp))
                have n_o_cb112 := obj_wrote o_cb112 hW120 (obj_ne o_cb112 o_D0 (by simp))
                have n_p_a := in_p_a.below hb
                have n_p_b := in_p_b.below hb
                have n_p_c := in_p_c.below hb
                have n_p_val := in_p_val.below hb
                have n_r_q4 := r_q4.wrote hW120 (r_q4.ne o_D0 (by simp))
                have n_r_q9 := r_q9.wrote hW120 (r_q9.ne o_D0 (by simp))
                have n_r_q14 := r_q14.wrote hW120 (r_q14.ne o_D0 (by simp))
                have n_r_q22 := r_q22.wrote hW120 (r_q22.ne o_D0 (by simp))
                have n_r_q27 := r_q27.wrote hW120 (r_q27.ne o_D0 (by simp))
                have n_r_q32 := r_q32.wrote hW120 (r_q32.ne o_D0 (by simp))
                have n_r_q37 := r_q37.wrote hW120 (r_q37.ne o_D0 (by simp))
                have n_r_q42 := r_q42.wrote hW120 (r_q42.ne o_D0 (by simp))
                have n_r_q47 := r_q47.wrote hW120 (r_q47.ne o_D0 (by simp))
                have n_r_q52 := r_q52.wrote hW120 (r_q52.ne o_D0 (by simp))
                have n_r_q57 := r_q57.wrote hW120 (r_q57.ne o_D0 (by simp))
                have n_r_q86 := r_q86.wrote hW120 (r_q86.ne o_D0 (by simp))
                have n_r_q99 := r_q99.wrote hW120 (r_q99.ne o_D0 (by simp))
                have n_r_q108 := r_q108.wrote hW120 (r_q108.ne o_D0 (by simp))
                replace o_x8 := n_o_x8; clear n_o_x8
                replace o_cb8 := n_o_cb8; clear n_o_cb8
                replace o_cb13 := n_o_cb13; clear n_o_cb13
                replace o_cb18 := n_o_cb18; clear n_o_cb18
                replace o_cb26 := n_o_cb26; clear n_o_cb26
                replace o_cb31 := n_o_cb31; clear n_o_cb31
                replace o_cb36 := n_o_cb36; clear n_o_cb36
                replace o_cb41 := n_o_cb41; clear n_o_cb41
                replace o_cb46 := n_o_cb46; clear n_o_cb46
                replace o_cb51 := n_o_cb51; clear n_o_cb51
                replace o_cb56 := n_o_cb56; clear n_o_cb56
                replace o_cb61 := n_o_cb61; clear n_o_cb61
                replace o_cb73 := n_o_cb73; clear n_o_cb73
                replace o_cb77 := n_o_cb77; clear n_o_cb77
                replace o_cb90 := n_o_cb90; clear n_o_cb90
                replace o_cb103 := n_o_cb103; clear n_o_cb103
                replace o_cb112 := n_o_cb112; clear n_o_cb112
                replace p_a := n_p_a; clear n_p_a
                replace p_b := n_p_b; clear n_p_b
                replace p_c := n_p_c; clear n_p_c
                replace p_val := n_p_val; clear n_p_val
                replace r_q4 := n_r_q4; clear n_r_q4
                replace r_q9 := n_r_q9; clear n_r_q9
                replace r_q14 := n_r_q14; clear n_r_q14
                replace r_q22 := n_r_q22; clear n_r_q22
                replace r_q27 := n_r_q27; clear n_r_q27
                replace r_q32 := n_r_q32; clear n_r_q32
                replace r_q37 := n_r_q37; clear n_r_q37
                replace r_q42 := n_r_q42; clear n_r_q42
                replace r_q47 := n_r_q47; clear n_r_q47
                replace r_q52 := n_r_q52; clear n_r_q52
                replace r_q57 := n_r_q57; clear n_r_q57
                replace r_q86 := n_r_q86; clear n_r_q86
                replace r_q99 := n_r_q99; clear n_r_q99
                replace r_q108 := n_r_q108; clear n_r_q108
                replace o_D0 := hW120.here
                refine Lv_nil [.cell 8 4] [(.bool true)] rfl ⟨⟨⟨b1, 0, none⟩, by kernel_rfl, load_one (by kernel_rfl) (cell_obj o_x8 rfl)⟩, trivial⟩ ?_
                have e0 : true = true := by first | rfl | exact Eq.symm (by assumption)
                exact ⟨congrArg Value.bool e0, hb⟩
              · intro h121
                exfalso; exact of_decide_eq_false h121 (by first | exact over_assoc eqI_law ox.rise oy.rise oz.rise | exact over_self eqI_law ox | exact turn_turn eqB_law eqS_law evenB tellB ox.rise | exact nil_over eqI_law ox | exact over_nil eqI_law ox)
            · intro h122
              exfalso; exact of_decide_eq_false h122 (by first | exact over_assoc eqI_law ox.rise oy.rise oz.rise | exact over_self eqI_law ox | exact turn_turn eqB_law eqS_law evenB tellB ox.rise | exact nil_over eqI_law ox | exact over_nil eqI_law ox)
          · intro h123
            exfalso; exact of_decide_eq_false h123 (by first | exact over_assoc eqI_law ox.rise oy.rise oz.rise | exact over_self eqI_law ox | exact turn_turn eqB_law eqS_law evenB tellB ox.rise | exact nil_over eqI_law ox | exact over_nil eqI_law ox)
        · intro h124
          exfalso; exact of_decide_eq_false h124 (by first | exact over_assoc eqI_law ox.rise oy.rise oz.rise | exact over_self eqI_law ox | exact turn_turn eqB_law eqS_law evenB tellB ox.rise | exact nil_over eqI_law ox | exact over_nil eqI_law ox)
      · intro h125
        exfalso; exact of_decide_eq_false h125 (by first | exact over_assoc eqI_law ox.rise oy.rise oz.rise | exact over_self eqI_law ox | exact turn_turn eqB_law eqS_law evenB tellB ox.rise | exact nil_over eqI_law ox | exact over_nil eqI_law ox)
    · intro K c _ x A _ h; exact h.elim

end Go.Proofs.Ythjgnnfonofgkaa
