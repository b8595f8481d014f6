/- Walks, written by my program walk.py out of the specification gnot.py: each theorem says what one function returns and that it leaves memory as it was. -/
import Derived.Test.YthjgnnfonofgkaaPFlt
import Derived.Test.YthjgnnfonofgkaaWghex
import Derived.Test.YthjgnnfonofgkaaWgmS
import Derived.Test.YthjgnnfonofgkaaWgnS
import Derived.Test.YthjgnnfonofgkaaWgliv
import Derived.Test.YthjgnnfonofgkaaWgmF
import Derived.Test.YthjgnnfonofgkaaWgnF
import Derived.Test.YthjgnnfonofgkaaFKaf
import Derived.Test.YthjgnnfonofgkaaProg
import Derived.Tactics2
import Derived.Test.YthjgnnfonofgkaaFKu
namespace Go.Proofs.Ythjgnnfonofgkaa
open Go Go.RowKit Go.FK
set_option linter.unusedVariables false
set_option linter.unusedSimpArgs false

theorem el22 : Elem Try.prog 22 29 2 8 := ⟨Try.underlying22, by kernel_rfl, rfl⟩
theorem el23 : Elem Try.prog 23 27 1 8 := ⟨Try.underlying23, by kernel_rfl, rfl⟩
set_option maxHeartbeats 4000000 in
set_option maxRecDepth 100000 in
theorem c_furrowlaw04_PointsNot (v_l : Value) (l : List (Int × Int)) (v_val : Value) (val : List (Nat)) (w : World) (p_l : Rd w encRg v_l l) (p_val : Rd w encFlt v_val val) {m_ml : Int} (hml : w.cell? ⟨0, 0, none⟩ = some (.int .i64 m_ml)) (hlw : ∀ x ∈ l, (-2147483648 ≤ x.1 ∧ x.1 ≤ 2147483647) ∧ (-2147483648 ≤ x.2 ∧ x.2 ≤ 2147483647)) :
    Calls Try.prog 3 #[v_l, v_val] w (Ret fun v w' => v = (.bool true) ∧ Below w.heap.size w w') := by
  refine enterM (args := [v_l, v_val]) Try.func3 rfl (by kernel_rfl : _ = 171) (by kernel_rfl) ?_
  have hb := Below.refl w.heap.size w
  have hs : w.heap.size ≤ w.heap.size := Nat.le_refl _
  have in_p_l := p_l
  have in_p_val := p_val
  refine W_seq (W_region (L_new (fun b => .pointer (some ⟨b, 0, none⟩)) (.cells [(.bool false)].toArray 4 (0, 0)) (by kernel_rfl) (by kernel_rfl) ?_))
  intro b1 w2 hN3
  have g_x4 : w.heap.size ≤ b1 := by rw [hN3.num]; exact hs
  replace hb := hb.trans (hN3.below.mono hs)
  replace hs := Nat.le_trans hs (hN3.below.size)
  replace p_l := p_l.below hN3.below
  replace p_val := p_val.below hN3.below
  have o_x4 := hN3.here
  refine L_nil (thenQ_normal (W_seq (W_seq (W_region (L_mv (L_len 22 29 (l).length v_l rfl Try.underlying22 (p_l).len (by kernel_rfl) (L_cmp .i64 (((l).length : Nat) : Int) ((40 : Nat) : Int) (40 < (l).length) rfl (cmpN_gt ((l).length) 40) (by kernel_rfl) (by kernel_rfl) ?_ ?_)))))))
  · intro h4
    replace h4 : 40 < (l).length := by omega
    refine L_mv (L_skip (by kernel_rfl) (L_skip (by kernel_rfl) (L_pickT (by kernel_rfl) (L_nil (thenQ_normal (W_true (by kernel_rfl) (W_seq (W_region (L_call 8 [] (by kernel_rfl) (by kernel_rfl) (c_lives  _ (gcell_below hml hb)) ?_)))))))))
    rintro _ w5 ⟨rfl, hB6⟩
    replace hb := hb.trans (hB6.mono hs)
    replace hs := Nat.le_trans hs (hB6.size)
    replace o_x4 := obj_below o_x4 hB6
    replace p_l := p_l.below hB6
    replace p_val := p_val.below hB6
    refine L_store b1 0 (.bool true) [(.bool false)] [(.bool true)] 4 (by kernel_rfl) (by kernel_rfl) rfl (by kernel_rfl) o_x4 (by simp) rfl ?_
    intro w8 hW9
    replace hb := hb.trans (hW9.below g_x4)
    replace hs := Nat.le_trans hs (Nat.le_of_eq hW9.size.symm)
    have n_p_l := in_p_l.below hb
    have n_p_val := in_p_val.below hb
    replace p_l := n_p_l; clear n_p_l
    replace p_val := n_p_val; clear n_p_val
    replace o_x4 := hW9.here
    refine L_nil (thenQ_normal (W_ret (thenQ_ret (end_retM (ds := []) (by kernel_rfl) ?_))))
    refine Lv_nil [.cell 4 4] [(.bool true)] rfl ⟨⟨⟨b1, 0, none⟩, by kernel_rfl, load_one (by kernel_rfl) (cell_obj o_x4 rfl)⟩, trivial⟩ ?_
    have e0 : true = true := by first | rfl | exact Eq.symm (by assumption)
    exact ⟨congrArg Value.bool e0, hb⟩
  · intro h10
    replace h10 : (l).length ≤ 40 := by omega
    refine L_mv (L_want (by kernel_rfl) (L_call 8 [] (by kernel_rfl) (by kernel_rfl) (c_lives  _ (gcell_below hml hb)) ?_))
    rintro _ w11 ⟨rfl, hB12⟩
    replace hb := hb.trans (hB12.mono hs)
    replace hs := Nat.le_trans hs (hB12.size)
    replace o_x4 := obj_below o_x4 hB12
    replace p_l := p_l.below hB12
    replace p_val := p_val.below hB12
    refine L_want (by kernel_rfl) (L_not true (by kernel_rfl) (L_pickF (by kernel_rfl) (L_nil (thenQ_normal (W_false (by kernel_rfl) (W_skip (thenQ_normal (W_seq (W_region (L_call 9 [] (by kernel_rfl) (by kernel_rfl) (c_new_F  _ ) ?_))))))))))
    rintro _ w14 ⟨cb17, rfl, o_cb17, g_cb17, hB15⟩
    have ne_x4_cb17 : b1 ≠ cb17 := by have := (obj_lt o_x4); omega
    have ne_cb17_x4 := ne_x4_cb17.symm
    replace g_cb17 := Nat.le_trans hs g_cb17
    replace hb := hb.trans (hB15.mono hs)
    replace hs := Nat.le_trans hs (hB15.size)
    replace o_x4 := obj_below o_x4 hB15
    replace p_l := p_l.below hB15
    replace p_val := p_val.below hB15
    refine L_new (fun b => .pointer (some ⟨b, 0, none⟩)) (.cells [(.pointer none)].toArray 25 (0, 0)) (by kernel_rfl) (by kernel_rfl) ?_
    intro b18 w19 hN20
    have ne_x4_x5 : b1 ≠ b18 := by have := (obj_lt o_x4); have := hN20.num; omega
    have ne_x5_x4 := ne_x4_x5.symm
    have ne_cb17_x5 : cb17 ≠ b18 := by have := (obj_lt o_cb17); have := hN20.num; omega
    have ne_x5_cb17 := ne_cb17_x5.symm
    have g_x5 : w.heap.size ≤ b18 := by rw [hN20.num]; exact hs
    replace hb := hb.trans (hN20.below.mono hs)
    replace hs := Nat.le_trans hs (hN20.below.size)
    replace o_x4 := obj_below o_x4 hN20.below
    replace o_cb17 := obj_below o_cb17 hN20.below
    replace p_l := p_l.below hN20.below
    replace p_val := p_val.below hN20.below
    have o_x5 := hN20.here
    refine L_store b18 0 (.pointer (some ⟨cb17, 0, none⟩)) [(.pointer none)] [(.pointer (some ⟨cb17, 0, none⟩))] 25 (by kernel_rfl) (by kernel_rfl) rfl (by kernel_rfl) o_x5 (by simp) rfl ?_
    intro w21 hW22
    replace hb := hb.trans (hW22.below g_x5)
    replace hs := Nat.le_trans hs (Nat.le_of_eq hW22.size.symm)
    have n_o_x4 := obj_wrote o_x4 hW22 (obj_ne o_x4 o_x5 (by simp))
    have n_o_cb17 := obj_wrote o_cb17 hW22 (obj_ne o_cb17 o_x5 (by simp))
    have n_p_l := in_p_l.below hb
    have n_p_val := in_p_val.below hb
    replace o_x4 := n_o_x4; clear n_o_x4
    replace o_cb17 := n_o_cb17; clear n_o_cb17
    replace p_l := n_p_l; clear n_p_l
    replace p_val := n_p_val; clear n_p_val
    replace o_x5 := hW22.here
    refine L_nil (thenQ_normal (W_seq (W_seq (W_region (L_load b18 0 (.pointer (some ⟨cb17, 0, none⟩)) (by kernel_rfl) (by kernel_rfl) (cell_obj o_x5 rfl) (L_run (.bool false) (by kernel_rfl) (by kernel_rfl) (L_nil (thenQ_normal (W_false (by kernel_rfl) (W_skip (thenQ_normal (W_seq (W_region (L_as (L_nil (thenQ_normal (W_seq (W_seq (W_region (L_as (L_nil (thenQ_normal (W_block ?_)))))))))))))))))))))))
    refine W_loop (fun m s0 w0 => ∃ (i : Nat) (n : Int) (am : List SpF) (v_cb17_0 : Value), (m = l.length - i) ∧ (s0.ds = []) ∧ (s0.f 0 = v_l) ∧ (s0.f 1 = v_val) ∧ (s0.f 4 = (.pointer (some ⟨b1, 0, none⟩))) ∧ (s0.f 5 = (.pointer (some ⟨b18, 0, none⟩))) ∧ (s0.f 6 = (.int .i64 n)) ∧ (s0.f 7 = (.int .i64 ((i : Nat) : Int))) ∧ (Rd w0 encRg v_l l) ∧ (Rd w0 encFlt v_val val) ∧ (Row w0 w.heap.size 104 3 encSpanF v_cb17_0 am) ∧ (w0.heap[b1]? = some (.cells [(.bool false)].toArray 4 (0, 0))) ∧ (w0.heap[cb17]? = some (.cells [v_cb17_0, (.bool true)].toArray 98 (0, 0))) ∧ (w0.heap[b18]? = some (.cells [(.pointer (some ⟨cb17, 0, none⟩))].toArray 25 (0, 0))) ∧ (Below w.heap.size w w0) ∧ (w.heap.size ≤ w0.heap.size) ∧ (i ≤ l.length) ∧ (RiseG 0 am) ∧ (n = sizeG am)) _ ⟨0, 0, [], (.slice none 0 0), rfl, by kernel_rfl, by kernel_rfl, by kernel_rfl, by kernel_rfl, by kernel_rfl, by kernel_rfl, by kernel_rfl, p_l, p_val, Row.nil _ _ _ _ _, o_x4, o_cb17, o_x5, hb, hs, by omega, trivial, rfl⟩ ?_
    rintro m23 s24 w25 ⟨i, n, am, v_cb17_0, hm, hds, f_0, f_1, f_4, f_5, f_6, f_7, p_l, p_val, r_cb17_0, o_x4, o_cb17, o_x5, hb, hs, i1, i2, i3⟩
    refine W_set 0 _ f_0 (W_set 1 _ f_1 (W_set 4 _ f_4 (W_set 5 _ f_5 (W_set 6 _ f_6 (W_set 7 _ f_7 ?_)))))
    clear f_0 f_1 f_4 f_5 f_6 f_7
    have hsz := size_bd i2
    have hln := RiseG.len i2
    refine W_seq (W_seq (W_region (L_mv (L_mv (L_len 22 29 (l).length v_l rfl Try.underlying22 (p_l).len (by kernel_rfl) (L_cmp .i64 ((i : Nat) : Int) (((l).length : Nat) : Int) (i < (l).length) rfl (cmpN_lt i ((l).length)) (by kernel_rfl) (by kernel_rfl) ?_ ?_))))))
    · intro h26
      replace h26 : i < (l).length := by omega
      refine L_nil (thenQ_normal (W_true (by kernel_rfl) (W_skip (thenQ_normal (W_seq (W_block (W_seq (W_region (L_as (L_nil (thenQ_normal ?_)))))))))))
      refine W_cut (fun s0 w0 => ∃ (vv : Nat), (s0.ds = []) ∧ (s0.f 0 = v_l) ∧ (s0.f 1 = v_val) ∧ (s0.f 4 = (.pointer (some ⟨b1, 0, none⟩))) ∧ (s0.f 5 = (.pointer (some ⟨b18, 0, none⟩))) ∧ (s0.f 6 = (.int .i64 n)) ∧ (s0.f 7 = (.int .i64 ((i : Nat) : Int))) ∧ (s0.f 8 = (.float .f64 vv)) ∧ (Rd w0 encRg v_l l) ∧ (Rd w0 encFlt v_val val) ∧ (Row w0 w.heap.size 104 3 encSpanF v_cb17_0 am) ∧ (w0.heap[b1]? = some (.cells [(.bool false)].toArray 4 (0, 0))) ∧ (w0.heap[cb17]? = some (.cells [v_cb17_0, (.bool true)].toArray 98 (0, 0))) ∧ (w0.heap[b18]? = some (.cells [(.pointer (some ⟨cb17, 0, none⟩))].toArray 25 (0, 0))) ∧ (Below w.heap.size w w0) ∧ (w.heap.size ≤ w0.heap.size)) ?_ ?_
      · refine W_seq (W_region (L_mv (L_mv (L_len 23 27 (val).length v_val rfl Try.underlying23 (p_val).len (by kernel_rfl) (L_cmp .i64 ((i : Nat) : Int) (((val).length : Nat) : Int) (i < (val).length) rfl (cmpN_lt i ((val).length)) (by kernel_rfl) (by kernel_rfl) ?_ ?_)))))
        · intro h27
          replace h27 : i < (val).length := by omega
          refine L_nil (thenQ_normal (W_true (by kernel_rfl) (W_region (L_mv (L_mv ?_)))))
          have hz := get_some val i (by omega); obtain ⟨x28, hx29⟩ := hz
          have hz := (p_val).at (k := 1) (fun _ => rfl) hx29
          obtain ⟨g30, off31, hl32, hc33⟩ := hz
          refine L_ixaddr (k := .i64) v_val i _ g30 off31 el23 hl32 (by omega) (by kernel_rfl) (by kernel_rfl) (L_load g30 (off31 + i * 1) (.float .f64 x28) (by kernel_rfl) (by kernel_rfl) (hc33 0 _ rfl) (L_as (L_nil ?_)))
          refine thenQ_normal ⟨x28, hds, by kernel_rfl, by kernel_rfl, by kernel_rfl, by kernel_rfl, by kernel_rfl, by kernel_rfl, by kernel_rfl, p_l, p_val, r_cb17_0, o_x4, o_cb17, o_x5, hb, hs⟩
        · intro h34
          replace h34 : (val).length ≤ i := by omega
          refine L_nil (thenQ_normal (W_false (by kernel_rfl) (W_skip ?_)))
          refine thenQ_normal ⟨0, hds, by kernel_rfl, by kernel_rfl, by kernel_rfl, by kernel_rfl, by kernel_rfl, by kernel_rfl, by kernel_rfl, p_l, p_val, r_cb17_0, o_x4, o_cb17, o_x5, hb, hs⟩
      · rintro s35 w36 ⟨vv, hds, f_0, f_1, f_4, f_5, f_6, f_7, f_8, p_l, p_val, r_cb17_0, o_x4, o_cb17, o_x5, hb, hs⟩
        refine W_set 0 _ f_0 (W_set 1 _ f_1 (W_set 4 _ f_4 (W_set 5 _ f_5 (W_set 6 _ f_6 (W_set 7 _ f_7 (W_set 8 _ f_8 ?_))))))
        clear f_0 f_1 f_4 f_5 f_6 f_7 f_8
        refine W_seq (W_region (L_mv (L_mv ?_)))
        have hz := get_some l i (by omega); obtain ⟨x37, hx38⟩ := hz
        have hz := (p_l).at (k := 2) (fun _ => rfl) hx38
        obtain ⟨g39, off40, hl41, hc42⟩ := hz
        have hw_x37 := hlw _ (List.mem_of_getElem? hx38)
        refine L_ixaddr (k := .i64) v_l i _ g39 off40 el22 hl41 (by omega) (by kernel_rfl) (by kernel_rfl) (L_loadA g39 (off40 + i * 2) [(.int .i32 x37.1), (.int .i32 x37.2)] (by kernel_rfl) (by kernel_rfl) (by kernel_rfl) hc42 (L_new (fun b => .pointer (some ⟨b, 0, none⟩)) (.cells [(.int .i32 0), (.int .i32 0)].toArray 29 (0, 0)) (by kernel_rfl) (by kernel_rfl) ?_))
        intro b43 w44 hN45
        have ne_x4_x9 : b1 ≠ b43 := by have := (obj_lt o_x4); have := hN45.num; omega
        have ne_x9_x4 := ne_x4_x9.symm
        have ne_cb17_x9 : cb17 ≠ b43 := by have := (obj_lt o_cb17); have := hN45.num; omega
        have ne_x9_cb17 := ne_cb17_x9.symm
        have ne_x5_x9 : b18 ≠ b43 := by have := (obj_lt o_x5); have := hN45.num; omega
        have ne_x9_x5 := ne_x5_x9.symm
        have g_x9 : w.heap.size ≤ b43 := by rw [hN45.num]; exact hs
        replace hb := hb.trans (hN45.below.mono hs)
        replace hs := Nat.le_trans hs (hN45.below.size)
        replace o_x4 := obj_below o_x4 hN45.below
        replace o_cb17 := obj_below o_cb17 hN45.below
        replace o_x5 := obj_below o_x5 hN45.below
        replace p_l := p_l.below hN45.below
        replace p_val := p_val.below hN45.below
        replace r_cb17_0 := r_cb17_0.below hN45.below
        have o_x9 := hN45.here
        refine L_storeA b43 0 [(.int .i32 x37.1), (.int .i32 x37.2)] [(.int .i32 0), (.int .i32 0)] [(.int .i32 x37.1), (.int .i32 x37.2)] 29 (by kernel_rfl) (by kernel_rfl) rfl (by kernel_rfl) o_x9 (by kernel_rfl) rfl ?_
        intro w46 hW47
        replace hb := hb.trans (hW47.below g_x9)
        replace hs := Nat.le_trans hs (Nat.le_of_eq hW47.size.symm)
        have n_o_x4 := obj_wrote o_x4 hW47 (obj_ne o_x4 o_x9 (by simp))
        have n_o_cb17 := obj_wrote o_cb17 hW47 (obj_ne o_cb17 o_x9 (by simp))
        have n_o_x5 := obj_wrote o_x5 hW47 (obj_ne o_x5 o_x9 (by simp))
        have n_p_l := in_p_l.below hb
        have n_p_val := in_p_val.below hb
        have n_r_cb17_0 := r_cb17_0.wrote hW47 (r_cb17_0.ne o_x9 (by simp))
        replace o_x4 := n_o_x4; clear n_o_x4
        replace o_cb17 := n_o_cb17; clear n_o_cb17
        replace o_x5 := n_o_x5; clear n_o_x5
        replace p_l := n_p_l; clear n_p_l
        replace p_val := n_p_val; clear n_p_val
        replace r_cb17_0 := n_r_cb17_0; clear n_r_cb17_0
        replace o_x9 := hW47.here
        refine L_nil (thenQ_normal ?_)
        refine W_cut (fun s0 w0 => ∃ (ga : Int) (gb : Int), (s0.ds = []) ∧ (s0.f 0 = v_l) ∧ (s0.f 1 = v_val) ∧ (s0.f 4 = (.pointer (some ⟨b1, 0, none⟩))) ∧ (s0.f 5 = (.pointer (some ⟨b18, 0, none⟩))) ∧ (s0.f 6 = (.int .i64 n)) ∧ (s0.f 7 = (.int .i64 ((i : Nat) : Int))) ∧ (s0.f 8 = (.float .f64 vv)) ∧ (s0.f 9 = (.pointer (some ⟨b43, 0, none⟩))) ∧ (Rd w0 encRg v_l l) ∧ (Rd w0 encFlt v_val val) ∧ (Row w0 w.heap.size 104 3 encSpanF v_cb17_0 am) ∧ (w0.heap[b1]? = some (.cells [(.bool false)].toArray 4 (0, 0))) ∧ (w0.heap[cb17]? = some (.cells [v_cb17_0, (.bool true)].toArray 98 (0, 0))) ∧ (w0.heap[b18]? = some (.cells [(.pointer (some ⟨cb17, 0, none⟩))].toArray 25 (0, 0))) ∧ (w0.heap[b43]? = some (.cells [(.int .i32 ga), (.int .i32 gb)].toArray 29 (0, 0))) ∧ (Below w.heap.size w w0) ∧ (w.heap.size ≤ w0.heap.size) ∧ ((-2147483648 ≤ ga ∧ ga ≤ 2147483647) ∧ (-2147483648 ≤ gb ∧ gb ≤ 2147483647))) ?_ ?_
        · refine W_seq (W_region (L_run (.pointer (some ⟨b43, 1, none⟩)) (by kernel_rfl) (by kernel_rfl) (L_load b43 1 (.int .i32 x37.2) (by kernel_rfl) (by kernel_rfl) (cell_obj o_x9 rfl) (L_run (.pointer (some ⟨b43, 0, none⟩)) (by kernel_rfl) (by kernel_rfl) (L_load b43 0 (.int .i32 x37.1) (by kernel_rfl) (by kernel_rfl) (cell_obj o_x9 rfl) (L_arith x37.2 x37.1 (IntKind.i32.wrap (x37.2 - x37.1)) rfl (by kernel_rfl) (by kernel_rfl) rfl (L_cmp .i32 (IntKind.i32.wrap (x37.2 - x37.1)) 50 (50 < (IntKind.i32.wrap (x37.2 - x37.1))) rfl (cmp_gt (IntKind.i32.wrap (x37.2 - x37.1)) 50) (by kernel_rfl) (by kernel_rfl) ?_ ?_)))))))
          · intro h48
            replace h48 : 50 < (IntKind.i32.wrap (x37.2 - x37.1)) := by omega
            refine L_mv (L_skip (by kernel_rfl) (L_skip (by kernel_rfl) (L_skip (by kernel_rfl) (L_skip (by kernel_rfl) (L_skip (by kernel_rfl) (L_pickT (by kernel_rfl) (L_nil (thenQ_normal (W_true (by kernel_rfl) (W_region (L_run (.pointer (some ⟨b43, 0, none⟩)) (by kernel_rfl) (by kernel_rfl) (L_load b43 0 (.int .i32 x37.1) (by kernel_rfl) (by kernel_rfl) (cell_obj o_x9 rfl) (L_run (.pointer (some ⟨b43, 1, none⟩)) (by kernel_rfl) (by kernel_rfl) (L_store b43 1 (.int .i32 x37.1) [(.int .i32 x37.1), (.int .i32 x37.2)] [(.int .i32 x37.1), (.int .i32 x37.1)] 29 (by kernel_rfl) (by kernel_rfl) rfl (by kernel_rfl) o_x9 (by simp) rfl ?_))))))))))))))
            intro w49 hW50
            replace hb := hb.trans (hW50.below g_x9)
            replace hs := Nat.le_trans hs (Nat.le_of_eq hW50.size.symm)
            have n_o_x4 := obj_wrote o_x4 hW50 (obj_ne o_x4 o_x9 (by simp))
            have n_o_cb17 := obj_wrote o_cb17 hW50 (obj_ne o_cb17 o_x9 (by simp))
            have n_o_x5 := obj_wrote o_x5 hW50 (obj_ne o_x5 o_x9 (by simp))
            have n_p_l := in_p_l.below hb
            have n_p_val := in_p_val.below hb
            have n_r_cb17_0 := r_cb17_0.wrote hW50 (r_cb17_0.ne o_x9 (by simp))
            replace o_x4 := n_o_x4; clear n_o_x4
            replace o_cb17 := n_o_cb17; clear n_o_cb17
            replace o_x5 := n_o_x5; clear n_o_x5
            replace p_l := n_p_l; clear n_p_l
            replace p_val := n_p_val; clear n_p_val
            replace r_cb17_0 := n_r_cb17_0; clear n_r_cb17_0
            replace o_x9 := hW50.here
            refine L_nil ?_
            refine thenQ_normal ⟨x37.1, x37.1, hds, by kernel_rfl, by kernel_rfl, by kernel_rfl, by kernel_rfl, by kernel_rfl, by kernel_rfl, by kernel_rfl, by kernel_rfl, p_l, p_val, r_cb17_0, o_x4, o_cb17, o_x5, o_x9, hb, hs, ?_⟩
            omega
          · intro h51
            replace h51 : (IntKind.i32.wrap (x37.2 - x37.1)) ≤ 50 := by omega
            refine L_mv (L_want (by kernel_rfl) (L_run (.pointer (some ⟨b43, 1, none⟩)) (by kernel_rfl) (by kernel_rfl) (L_want (by kernel_rfl) (L_load b43 1 (.int .i32 x37.2) (by kernel_rfl) (by kernel_rfl) (cell_obj o_x9 rfl) (L_want (by kernel_rfl) (L_run (.pointer (some ⟨b43, 0, none⟩)) (by kernel_rfl) (by kernel_rfl) (L_want (by kernel_rfl) (L_load b43 0 (.int .i32 x37.1) (by kernel_rfl) (by kernel_rfl) (cell_obj o_x9 rfl) (L_want (by kernel_rfl) (L_cmp .i32 x37.2 x37.1 (x37.2 < x37.1) rfl (cmp_lt x37.2 x37.1) (by kernel_rfl) (by kernel_rfl) ?_ ?_))))))))))
            · intro h52
              replace h52 : x37.2 < x37.1 := by omega
              refine L_pickF (by kernel_rfl) (L_nil (thenQ_normal (W_true (by kernel_rfl) (W_region (L_run (.pointer (some ⟨b43, 0, none⟩)) (by kernel_rfl) (by kernel_rfl) (L_load b43 0 (.int .i32 x37.1) (by kernel_rfl) (by kernel_rfl) (cell_obj o_x9 rfl) (L_run (.pointer (some ⟨b43, 1, none⟩)) (by kernel_rfl) (by kernel_rfl) (L_store b43 1 (.int .i32 x37.1) [(.int .i32 x37.1), (.int .i32 x37.2)] [(.int .i32 x37.1), (.int .i32 x37.1)] 29 (by kernel_rfl) (by kernel_rfl) rfl (by kernel_rfl) o_x9 (by simp) rfl ?_))))))))
              intro w53 hW54
              replace hb := hb.trans (hW54.below g_x9)
              replace hs := Nat.le_trans hs (Nat.le_of_eq hW54.size.symm)
              have n_o_x4 := obj_wrote o_x4 hW54 (obj_ne o_x4 o_x9 (by simp))
              have n_o_cb17 := obj_wrote o_cb17 hW54 (obj_ne o_cb17 o_x9 (by simp))
              have n_o_x5 := obj_wrote o_x5 hW54 (obj_ne o_x5 o_x9 (by simp))
              have n_p_l := in_p_l.below hb
              have n_p_val := in_p_val.below hb
              have n_r_cb17_0 := r_cb17_0.wrote hW54 (r_cb17_0.ne o_x9 (by simp))
              replace o_x4 := n_o_x4; clear n_o_x4
              replace o_cb17 := n_o_cb17; clear n_o_cb17
              replace o_x5 := n_o_x5; clear n_o_x5
              replace p_l := n_p_l; clear n_p_l
              replace p_val := n_p_val; clear n_p_val
              replace r_cb17_0 := n_r_cb17_0; clear n_r_cb17_0
              replace o_x9 := hW54.here
              refine L_nil ?_
              refine thenQ_normal ⟨x37.1, x37.1, hds, by kernel_rfl, by kernel_rfl, by kernel_rfl, by kernel_rfl, by kernel_rfl, by kernel_rfl, by kernel_rfl, by kernel_rfl, p_l, p_val, r_cb17_0, o_x4, o_cb17, o_x5, o_x9, hb, hs, ?_⟩
              omega
            · intro h55
              replace h55 : x37.1 ≤ x37.2 := by omega
              refine L_pickF (by kernel_rfl) (L_nil (thenQ_normal (W_false (by kernel_rfl) (W_skip ?_))))
              refine thenQ_normal ⟨x37.1, x37.2, hds, by kernel_rfl, by kernel_rfl, by kernel_rfl, by kernel_rfl, by kernel_rfl, by kernel_rfl, by kernel_rfl, by kernel_rfl, p_l, p_val, r_cb17_0, o_x4, o_cb17, o_x5, o_x9, hb, hs, ?_⟩
              omega
        · rintro s56 w57 ⟨ga, gb, hds, f_0, f_1, f_4, f_5, f_6, f_7, f_8, f_9, p_l, p_val, r_cb17_0, o_x4, o_cb17, o_x5, o_x9, hb, hs, jb⟩
          refine W_set 0 _ f_0 (W_set 1 _ f_1 (W_set 4 _ f_4 (W_set 5 _ f_5 (W_set 6 _ f_6 (W_set 7 _ f_7 (W_set 8 _ f_8 (W_set 9 _ f_9 ?_)))))))
          clear f_0 f_1 f_4 f_5 f_6 f_7 f_8 f_9
          refine W_seq (W_seq (W_region (L_load b18 0 (.pointer (some ⟨cb17, 0, none⟩)) (by kernel_rfl) (by kernel_rfl) (cell_obj o_x5 rfl) (L_loadA b43 0 [(.int .i32 ga), (.int .i32 gb)] (by kernel_rfl) (by kernel_rfl) (by kernel_rfl) (cells_at o_x9 0 (by kernel_rfl)) (L_mv (L_call 10 [(.pointer (some ⟨cb17, 0, none⟩)), (Value.agg #[(.int .i32 ga), (.int .i32 gb)]), (.float .f64 vv)] (by kernel_rfl) (by kernel_rfl) (c_put_F cb17 v_cb17_0 am ga gb vv w.heap.size _ hs o_cb17 g_cb17 r_cb17_0 (by first | exact i2 | exact putF_rise i2) (by omega) (by omega)) ?_))))))
          rintro _ w59 ⟨q58, rfl, ho62, r_q58, dm60, hC61⟩
          replace hb := hC61.below hb hs (fun k e => e.elim (fun x => x ▸ g_cb17) (fun x => (World.ownsRow.lt r_cb17_0 k x).1))
          replace hs := Nat.le_trans hs hC61.size
          have n_o_x4 := obj_ch_mut o_x4 hC61 (obj_ne o_x4 o_cb17 (by simp)) (r_cb17_0.ne o_x4 (by simp))
          have n_o_x5 := obj_ch_mut o_x5 hC61 (obj_ne o_x5 o_cb17 (by simp)) (r_cb17_0.ne o_x5 (by simp))
          have n_o_x9 := obj_ch_mut o_x9 hC61 (obj_ne o_x9 o_cb17 (by simp)) (r_cb17_0.ne o_x9 (by simp))
          have n_p_l := in_p_l.below hb
          have n_p_val := in_p_val.below hb
          replace o_x4 := n_o_x4; clear n_o_x4
          replace o_x5 := n_o_x5; clear n_o_x5
          replace o_x9 := n_o_x9; clear n_o_x9
          replace p_l := n_p_l; clear n_p_l
          replace p_val := n_p_val; clear n_p_val
          replace o_cb17 := ho62
          refine L_cmp .i64 (putE am ga gb) 0 ((putE am ga gb) ≠ 0) rfl (cmp_ne (putE am ga gb) 0) (by kernel_rfl) (by kernel_rfl) ?_ ?_
          · intro h63
            replace h63 : (putE am ga gb) ≠ 0 := by omega
            refine L_nil (thenQ_normal (W_true (by kernel_rfl) (W_exit (thenQ_exit (blkQ_exit (thenQ_normal (W_region (L_mv (L_addN i 1 (by omega) (by kernel_rfl) (by kernel_rfl) (L_as (L_nil ?_)))))))))))
            refine thenQ_normal ⟨_, ?_, (i + 1), n, (putF eqF am ga gb vv), q58, rfl, hds, by kernel_rfl, by kernel_rfl, by kernel_rfl, by kernel_rfl, by kernel_rfl, by kernel_rfl, p_l, p_val, r_q58, o_x4, o_cb17, o_x5, hb, hs, ?_, ?_, ?_⟩
            · omega
            · omega
            · first | exact i2 | exact putF_rise i2
            · first | (rw [putE_no (by assumption)]; exact i3) | (rw [put_size i2 hpe, i3]; omega)
          · intro h64
            replace h64 : (putE am ga gb) = 0 := by omega
            have hpe : putE am ga gb = 0 := h64; have hmb := mayG_b (putE_ok hpe).1
            refine L_nil (thenQ_normal (W_false (by kernel_rfl) (W_skip (thenQ_normal (W_seq (W_region (L_mv (L_run (.pointer (some ⟨b43, 1, none⟩)) (by kernel_rfl) (by kernel_rfl) (L_load b43 1 (.int .i32 gb) (by kernel_rfl) (by kernel_rfl) (cell_obj o_x9 rfl) (L_run (.pointer (some ⟨b43, 0, none⟩)) (by kernel_rfl) (by kernel_rfl) (L_load b43 0 (.int .i32 ga) (by kernel_rfl) (by kernel_rfl) (cell_obj o_x9 rfl) (L_arith gb ga (gb - ga) rfl (by kernel_rfl) (by kernel_rfl) (wrap_i32 _ (by simp only [arithZ]; omega) (by simp only [arithZ]; omega)) (L_conv (k := .i32) (gb - ga) (gb - ga) (by kernel_rfl) Try.underlying3 (by kernel_rfl) (wrap_i64 _ (by omega) (by omega)) (L_arith n (gb - ga) (n + (gb - ga)) rfl (by kernel_rfl) (by kernel_rfl) (wrap_i64 _ (by simp only [arithZ]; omega) (by simp only [arithZ]; omega)) (L_arith (n + (gb - ga)) 1 ((n + (gb - ga)) + 1) rfl (by kernel_rfl) (by kernel_rfl) (wrap_i64 _ (by simp only [arithZ]; omega) (by simp only [arithZ]; omega)) (L_as (L_nil (thenQ_normal (W_seq (W_region (L_run (.pointer (some ⟨b43, 0, none⟩)) (by kernel_rfl) (by kernel_rfl) (L_load b43 0 (.int .i32 ga) (by kernel_rfl) (by kernel_rfl) (cell_obj o_x9 rfl) (L_as (L_nil (thenQ_normal (W_block ?_))))))))))))))))))))))))))
            refine W_loop (fun m s0 w0 => ∃ (x : Int), (m = (gb + 1 - x).toNat) ∧ (s0.ds = []) ∧ (s0.f 0 = v_l) ∧ (s0.f 1 = v_val) ∧ (s0.f 4 = (.pointer (some ⟨b1, 0, none⟩))) ∧ (s0.f 5 = (.pointer (some ⟨b18, 0, none⟩))) ∧ (s0.f 6 = (.int .i64 ((n + (gb - ga)) + 1))) ∧ (s0.f 7 = (.int .i64 ((i : Nat) : Int))) ∧ (s0.f 8 = (.float .f64 vv)) ∧ (s0.f 9 = (.pointer (some ⟨b43, 0, none⟩))) ∧ (s0.f 10 = (.int .i32 x)) ∧ (Rd w0 encRg v_l l) ∧ (Rd w0 encFlt v_val val) ∧ (Row w0 w.heap.size 104 3 encSpanF q58 (putF eqF am ga gb vv)) ∧ (w0.heap[b1]? = some (.cells [(.bool false)].toArray 4 (0, 0))) ∧ (w0.heap[cb17]? = some (.cells [q58, (.bool true)].toArray 98 (0, 0))) ∧ (w0.heap[b18]? = some (.cells [(.pointer (some ⟨cb17, 0, none⟩))].toArray 25 (0, 0))) ∧ (w0.heap[b43]? = some (.cells [(.int .i32 ga), (.int .i32 gb)].toArray 29 (0, 0))) ∧ (Below w.heap.size w w0) ∧ (w.heap.size ≤ w0.heap.size) ∧ (ga ≤ x ∧ x ≤ gb + 1)) _ ⟨ga, rfl, hds, by kernel_rfl, by kernel_rfl, by kernel_rfl, by kernel_rfl, by kernel_rfl, by kernel_rfl, by kernel_rfl, by kernel_rfl, by kernel_rfl, p_l, p_val, r_q58, o_x4, o_cb17, o_x5, o_x9, hb, hs, by omega⟩ ?_
            rintro m65 s66 w67 ⟨x, hm, hds, f_0, f_1, f_4, f_5, f_6, f_7, f_8, f_9, f_10, p_l, p_val, r_q58, o_x4, o_cb17, o_x5, o_x9, hb, hs, k1⟩
            refine W_set 0 _ f_0 (W_set 1 _ f_1 (W_set 4 _ f_4 (W_set 5 _ f_5 (W_set 6 _ f_6 (W_set 7 _ f_7 (W_set 8 _ f_8 (W_set 9 _ f_9 (W_set 10 _ f_10 ?_))))))))
            clear f_0 f_1 f_4 f_5 f_6 f_7 f_8 f_9 f_10
            refine W_seq (W_seq (W_region (L_mv (L_run (.pointer (some ⟨b43, 1, none⟩)) (by kernel_rfl) (by kernel_rfl) (L_load b43 1 (.int .i32 gb) (by kernel_rfl) (by kernel_rfl) (cell_obj o_x9 rfl) (L_cmp .i32 x gb (x ≤ gb) rfl (cmp_le x gb) (by kernel_rfl) (by kernel_rfl) ?_ ?_))))))
            · intro h68
              replace h68 : x ≤ gb := by omega
              have hput := put_at (z := 0) (eq := eqF) (v := vv) i2 hpe (by omega) (by omega) (x := x)
              refine L_nil (thenQ_normal (W_true (by kernel_rfl) (W_skip (thenQ_normal (W_seq (W_block (W_seq (W_region (L_load b18 0 (.pointer (some ⟨cb17, 0, none⟩)) (by kernel_rfl) (by kernel_rfl) (cell_obj o_x5 rfl) (L_mv (L_call 11 [(.pointer (some ⟨cb17, 0, none⟩)), (.int .i32 x)] (by kernel_rfl) (by kernel_rfl) (c_at_F cb17 q58 (putF eqF am ga gb vv) x _ o_cb17 r_q58.rd (by first | exact i2 | exact putF_rise i2)) ?_)))))))))))
              rintro _ w69 ⟨rfl, hB70⟩
              replace hb := hb.trans (hB70.mono hs)
              replace hs := Nat.le_trans hs (hB70.size)
              replace o_x4 := obj_below o_x4 hB70
              replace o_cb17 := obj_below o_cb17 hB70
              replace o_x5 := obj_below o_x5 hB70
              replace o_x9 := obj_below o_x9 hB70
              replace p_l := p_l.below hB70
              replace p_val := p_val.below hB70
              replace r_q58 := r_q58.below hB70
              refine L_mv (L_run (.float .f64 ((atG 0 (putF eqF am ga gb vv) x).1)) (by kernel_rfl) (by kernel_rfl) (L_run (.bool ((atG 0 (putF eqF am ga gb vv) x).2)) (by kernel_rfl) (by kernel_rfl) (put_split ((atG 0 (putF eqF am ga gb vv) x).2) ?_ ?_)))
              · intro h72
                refine L_as (L_as (L_nil (thenQ_normal (W_seq (W_region (L_mv (L_not true (by kernel_rfl) (L_mv (L_want (by kernel_rfl) (L_mv (L_want (by kernel_rfl) (L_mv (L_want (by kernel_rfl) (L_fNe ((atG 0 (putF eqF am ga gb vv) x).1) vv (eqF ((atG 0 (putF eqF am ga gb vv) x).1) vv) (by kernel_rfl) (by kernel_rfl) (by rfl) ?_ ?_))))))))))))))
                · intro h73
                  refine L_want (by kernel_rfl) (L_mv (L_want (by kernel_rfl) (L_mv (L_want (by kernel_rfl) (L_mv (L_want (by kernel_rfl) (L_fEq ((atG 0 (putF eqF am ga gb vv) x).1) ((atG 0 (putF eqF am ga gb vv) x).1) (eqF ((atG 0 (putF eqF am ga gb vv) x).1) ((atG 0 (putF eqF am ga gb vv) x).1)) (by kernel_rfl) (by kernel_rfl) (by rfl) ?_ ?_)))))))
                  · intro h74
                    exfalso; exact flt_no hput (by assumption) h74
                  · intro h75
                    refine L_want (by kernel_rfl) (L_mv (L_want (by kernel_rfl) (L_mv (L_want (by kernel_rfl) (L_mv (L_want (by kernel_rfl) (L_fEq vv vv (eqF vv vv) (by kernel_rfl) (by kernel_rfl) (by rfl) ?_ ?_)))))))
                    · intro h76
                      exfalso; exact flt_no2 hput (by assumption) h76
                    · intro h77
                      refine L_want (by kernel_rfl) (L_pickF (by kernel_rfl) (L_want (by kernel_rfl) (L_pickT (by kernel_rfl) (L_pickF (by kernel_rfl) (L_nil (thenQ_normal (W_false (by kernel_rfl) (W_skip (blkQ_normal (thenQ_normal (W_region (L_mv (L_arith x 1 (x + 1) rfl (by kernel_rfl) (by kernel_rfl) (wrap_i32 _ (by simp only [arithZ]; omega) (by simp only [arithZ]; omega)) (L_as (L_nil ?_)))))))))))))))
                      refine thenQ_normal ⟨_, ?_, (x + 1), rfl, hds, by kernel_rfl, by kernel_rfl, by kernel_rfl, by kernel_rfl, by kernel_rfl, by kernel_rfl, by kernel_rfl, by kernel_rfl, by kernel_rfl, p_l, p_val, r_q58, o_x4, o_cb17, o_x5, o_x9, hb, hs, ?_⟩
                      · omega
                      · omega
                · intro h78
                  refine L_want (by kernel_rfl) (L_mv (L_skip (by kernel_rfl) (L_skip (by kernel_rfl) (L_skip (by kernel_rfl) (L_skip (by kernel_rfl) (L_skip (by kernel_rfl) (L_skip (by kernel_rfl) (L_skip (by kernel_rfl) (L_skip (by kernel_rfl) (L_want (by kernel_rfl) (L_pickF (by kernel_rfl) (L_pickF (by kernel_rfl) (L_nil (thenQ_normal (W_false (by kernel_rfl) (W_skip (blkQ_normal (thenQ_normal (W_region (L_mv (L_arith x 1 (x + 1) rfl (by kernel_rfl) (by kernel_rfl) (wrap_i32 _ (by simp only [arithZ]; omega) (by simp only [arithZ]; omega)) (L_as (L_nil ?_)))))))))))))))))))))))
                  refine thenQ_normal ⟨_, ?_, (x + 1), rfl, hds, by kernel_rfl, by kernel_rfl, by kernel_rfl, by kernel_rfl, by kernel_rfl, by kernel_rfl, by kernel_rfl, by kernel_rfl, by kernel_rfl, p_l, p_val, r_q58, o_x4, o_cb17, o_x5, o_x9, hb, hs, ?_⟩
                  · omega
                  · omega
              · intro h79
                exfalso; rw [hput] at h79; cases h79
            · intro h80
              replace h80 : gb < x := by omega
              refine L_nil (thenQ_normal (W_false (by kernel_rfl) (W_exit (thenQ_exit (thenQ_exit (blkQ_exit (blkQ_normal (thenQ_normal (W_region (L_mv (L_addN i 1 (by omega) (by kernel_rfl) (by kernel_rfl) (L_as (L_nil ?_)))))))))))))
              refine thenQ_normal ⟨_, ?_, (i + 1), ((n + (gb - ga)) + 1), (putF eqF am ga gb vv), q58, rfl, hds, by kernel_rfl, by kernel_rfl, by kernel_rfl, by kernel_rfl, by kernel_rfl, by kernel_rfl, p_l, p_val, r_q58, o_x4, o_cb17, o_x5, hb, hs, ?_, ?_, ?_⟩
              · omega
              · omega
              · first | exact i2 | exact putF_rise i2
              · first | (rw [putE_no (by assumption)]; exact i3) | (rw [put_size i2 hpe, i3]; omega)
    · intro h81
      replace h81 : (l).length ≤ i := by omega
      refine L_nil (thenQ_normal (W_false (by kernel_rfl) (W_exit (thenQ_exit (thenQ_exit (blkQ_exit (thenQ_normal (W_seq (W_region (L_new (fun b => .pointer (some ⟨b, 0, none⟩)) (.cells [(.int .i64 0)].toArray 3 (0, 0)) (by kernel_rfl) (by kernel_rfl) ?_))))))))))
      intro b82 w83 hN84
      have ne_x4_x13 : b1 ≠ b82 := by have := (obj_lt o_x4); have := hN84.num; omega
      have ne_x13_x4 := ne_x4_x13.symm
      have ne_cb17_x13 : cb17 ≠ b82 := by have := (obj_lt o_cb17); have := hN84.num; omega
      have ne_x13_cb17 := ne_cb17_x13.symm
      have ne_x5_x13 : b18 ≠ b82 := by have := (obj_lt o_x5); have := hN84.num; omega
      have ne_x13_x5 := ne_x5_x13.symm
      have g_x13 : w.heap.size ≤ b82 := by rw [hN84.num]; exact hs
      replace hb := hb.trans (hN84.below.mono hs)
      replace hs := Nat.le_trans hs (hN84.below.size)
      replace o_x4 := obj_below o_x4 hN84.below
      replace o_cb17 := obj_below o_cb17 hN84.below
      replace o_x5 := obj_below o_x5 hN84.below
      replace p_l := p_l.below hN84.below
      replace p_val := p_val.below hN84.below
      replace r_cb17_0 := r_cb17_0.below hN84.below
      have o_x13 := hN84.here
      refine L_store b82 0 (.int .i64 0) [(.int .i64 0)] [(.int .i64 0)] 3 (by kernel_rfl) (by kernel_rfl) rfl (by kernel_rfl) o_x13 (by simp) rfl ?_
      intro w85 hW86
      replace hb := hb.trans (hW86.below g_x13)
      replace hs := Nat.le_trans hs (Nat.le_of_eq hW86.size.symm)
      have n_o_x4 := obj_wrote o_x4 hW86 (obj_ne o_x4 o_x13 (by simp))
      have n_o_cb17 := obj_wrote o_cb17 hW86 (obj_ne o_cb17 o_x13 (by simp))
      have n_o_x5 := obj_wrote o_x5 hW86 (obj_ne o_x5 o_x13 (by simp))
      have n_p_l := in_p_l.below hb
      have n_p_val := in_p_val.below hb
      have n_r_cb17_0 := r_cb17_0.wrote hW86 (r_cb17_0.ne o_x13 (by simp))
      replace o_x4 := n_o_x4; clear n_o_x4
      replace o_cb17 := n_o_cb17; clear n_o_cb17
      replace o_x5 := n_o_x5; clear n_o_x5
      replace p_l := n_p_l; clear n_p_l
      replace p_val := n_p_val; clear n_p_val
      replace r_cb17_0 := n_r_cb17_0; clear n_r_cb17_0
      replace o_x13 := hW86.here
      refine L_nil (thenQ_normal (W_seq (W_region (L_new (fun b => .pointer (some ⟨b, 0, none⟩)) (.cells [(.int .i32 0)].toArray 21 (0, 0)) (by kernel_rfl) (by kernel_rfl) ?_))))
      intro b87 w88 hN89
      have ne_x4_x14 : b1 ≠ b87 := by have := (obj_lt o_x4); have := hN89.num; omega
      have ne_x14_x4 := ne_x4_x14.symm
      have ne_cb17_x14 : cb17 ≠ b87 := by have := (obj_lt o_cb17); have := hN89.num; omega
      have ne_x14_cb17 := ne_cb17_x14.symm
      have ne_x5_x14 : b18 ≠ b87 := by have := (obj_lt o_x5); have := hN89.num; omega
      have ne_x14_x5 := ne_x5_x14.symm
      have ne_x13_x14 : b82 ≠ b87 := by have := (obj_lt o_x13); have := hN89.num; omega
      have ne_x14_x13 := ne_x13_x14.symm
      have g_x14 : w.heap.size ≤ b87 := by rw [hN89.num]; exact hs
      replace hb := hb.trans (hN89.below.mono hs)
      replace hs := Nat.le_trans hs (hN89.below.size)
      replace o_x4 := obj_below o_x4 hN89.below
      replace o_cb17 := obj_below o_cb17 hN89.below
      replace o_x5 := obj_below o_x5 hN89.below
      replace o_x13 := obj_below o_x13 hN89.below
      replace p_l := p_l.below hN89.below
      replace p_val := p_val.below hN89.below
      replace r_cb17_0 := r_cb17_0.below hN89.below
      have o_x14 := hN89.here
      refine L_store b87 0 (.int .i32 (-1)) [(.int .i32 0)] [(.int .i32 (-1))] 21 (by kernel_rfl) (by kernel_rfl) rfl (by kernel_rfl) o_x14 (by simp) rfl ?_
      intro w90 hW91
      replace hb := hb.trans (hW91.below g_x14)
      replace hs := Nat.le_trans hs (Nat.le_of_eq hW91.size.symm)
      have n_o_x4 := obj_wrote o_x4 hW91 (obj_ne o_x4 o_x14 (by simp))
      have n_o_cb17 := obj_wrote o_cb17 hW91 (obj_ne o_cb17 o_x14 (by simp))
      have n_o_x5 := obj_wrote o_x5 hW91 (obj_ne o_x5 o_x14 (by simp))
      have n_o_x13 := obj_wrote o_x13 hW91 (obj_ne o_x13 o_x14 (by simp))
      have n_p_l := in_p_l.below hb
      have n_p_val := in_p_val.below hb
      have n_r_cb17_0 := r_cb17_0.wrote hW91 (r_cb17_0.ne o_x14 (by simp))
      replace o_x4 := n_o_x4; clear n_o_x4
      replace o_cb17 := n_o_cb17; clear n_o_cb17
      replace o_x5 := n_o_x5; clear n_o_x5
      replace o_x13 := n_o_x13; clear n_o_x13
      replace p_l := n_p_l; clear n_p_l
      replace p_val := n_p_val; clear n_p_val
      replace r_cb17_0 := n_r_cb17_0; clear n_r_cb17_0
      replace o_x14 := hW91.here
      refine L_nil (thenQ_normal (W_seq (W_seq (W_region (L_load b18 0 (.pointer (some ⟨cb17, 0, none⟩)) (by kernel_rfl) (by kernel_rfl) (cell_obj o_x5 rfl) (L_call 12 [(.pointer (some ⟨cb17, 0, none⟩))] (by kernel_rfl) (by kernel_rfl) (c_all_F cb17 v_cb17_0 am _ o_cb17 r_cb17_0.rd) ?_))))))
      rintro _ w92 ⟨cb95, rfl, o_cb95, g_cb95, hB93⟩
      have ne_x4_cb95 : b1 ≠ cb95 := by have := (obj_lt o_x4); omega
      have ne_cb95_x4 := ne_x4_cb95.symm
      have ne_cb17_cb95 : cb17 ≠ cb95 := by have := (obj_lt o_cb17); omega
      have ne_cb95_cb17 := ne_cb17_cb95.symm
      have ne_x5_cb95 : b18 ≠ cb95 := by have := (obj_lt o_x5); omega
      have ne_cb95_x5 := ne_x5_cb95.symm
      have ne_x13_cb95 : b82 ≠ cb95 := by have := (obj_lt o_x13); omega
      have ne_cb95_x13 := ne_x13_cb95.symm
      have ne_x14_cb95 : b87 ≠ cb95 := by have := (obj_lt o_x14); omega
      have ne_cb95_x14 := ne_x14_cb95.symm
      replace g_cb95 := Nat.le_trans hs g_cb95
      replace hb := hb.trans (hB93.mono hs)
      replace hs := Nat.le_trans hs (hB93.size)
      replace o_x4 := obj_below o_x4 hB93
      replace o_cb17 := obj_below o_cb17 hB93
      replace o_x5 := obj_below o_x5 hB93
      replace o_x13 := obj_below o_x13 hB93
      replace o_x14 := obj_below o_x14 hB93
      replace p_l := p_l.below hB93
      replace p_val := p_val.below hB93
      replace r_cb17_0 := r_cb17_0.below hB93
      refine L_run (.bool false) (by kernel_rfl) (by kernel_rfl) (L_nil (thenQ_normal (W_false (by kernel_rfl) (W_skip (thenQ_normal (W_seq (W_seq (W_region (L_load b18 0 (.pointer (some ⟨cb17, 0, none⟩)) (by kernel_rfl) (by kernel_rfl) (cell_obj o_x5 rfl) (L_call 12 [(.pointer (some ⟨cb17, 0, none⟩))] (by kernel_rfl) (by kernel_rfl) (c_all_F cb17 v_cb17_0 am _ o_cb17 r_cb17_0.rd) ?_))))))))))
      rintro _ w96 ⟨cb99, rfl, o_cb99, g_cb99, hB97⟩
      have ne_x4_cb99 : b1 ≠ cb99 := by have := (obj_lt o_x4); omega
      have ne_cb99_x4 := ne_x4_cb99.symm
      have ne_cb17_cb99 : cb17 ≠ cb99 := by have := (obj_lt o_cb17); omega
      have ne_cb99_cb17 := ne_cb17_cb99.symm
      have ne_x5_cb99 : b18 ≠ cb99 := by have := (obj_lt o_x5); omega
      have ne_cb99_x5 := ne_x5_cb99.symm
      have ne_x13_cb99 : b82 ≠ cb99 := by have := (obj_lt o_x13); omega
      have ne_cb99_x13 := ne_x13_cb99.symm
      have ne_x14_cb99 : b87 ≠ cb99 := by have := (obj_lt o_x14); omega
      have ne_cb99_x14 := ne_x14_cb99.symm
      have ne_cb95_cb99 : cb95 ≠ cb99 := by have := (obj_lt o_cb95); omega
      have ne_cb99_cb95 := ne_cb95_cb99.symm
      replace g_cb99 := Nat.le_trans hs g_cb99
      replace hb := hb.trans (hB97.mono hs)
      replace hs := Nat.le_trans hs (hB97.size)
      replace o_x4 := obj_below o_x4 hB97
      replace o_cb17 := obj_below o_cb17 hB97
      replace o_x5 := obj_below o_x5 hB97
      replace o_x13 := obj_below o_x13 hB97
      replace o_x14 := obj_below o_x14 hB97
      replace o_cb95 := obj_below o_cb95 hB97
      replace p_l := p_l.below hB97
      replace p_val := p_val.below hB97
      replace r_cb17_0 := r_cb17_0.below hB97
      refine L_nil (thenQ_normal (W_block ?_))
      have lt_x4_0 : b1 < w96.heap.size := obj_lt o_x4
      have lt_cb17_0 : cb17 < w96.heap.size := obj_lt o_cb17
      have lt_x5_0 : b18 < w96.heap.size := obj_lt o_x5
      have lt_x13_0 : b82 < w96.heap.size := obj_lt o_x13
      have lt_x14_0 : b87 < w96.heap.size := obj_lt o_x14
      have lt_cb95_0 : cb95 < w96.heap.size := obj_lt o_cb95
      have lt_cb99_0 : cb99 < w96.heap.size := obj_lt o_cb99
      have hs_0 := hs
      have hb_0 := hb
      refine W_range 54 [(.pointer (some ⟨cb99, 0, none⟩))] am (by kernel_rfl) (fun _ _ => rfl) (it_all_F cb99 cb17 v_cb17_0 am (by omega)) ⟨o_cb99, o_cb17, r_cb17_0.rd⟩ ((fun D A B h hc hd => ⟨obj_ch h.1 hc (fun h => Nat.not_lt.2 (hd _ h) lt_cb99_0), obj_ch h.2.1 hc (fun h => Nat.not_lt.2 (hd _ h) lt_cb17_0), Rd.ch r_cb17_0.rd (Nat.le_refl _) h.2.2 hc hd⟩)) (by intro x; rfl) (fun K pre A => ∃ (kk : Int) (ll : Int), (A.heap[b1]? = some (.cells [(.bool false)].toArray 4 (0, 0))) ∧ (A.heap[cb17]? = some (.cells [v_cb17_0, (.bool true)].toArray 98 (0, 0))) ∧ (A.heap[b18]? = some (.cells [(.pointer (some ⟨cb17, 0, none⟩))].toArray 25 (0, 0))) ∧ (A.heap[b82]? = some (.cells [(.int .i64 kk)].toArray 3 (0, 0))) ∧ (A.heap[b87]? = some (.cells [(.int .i32 ll)].toArray 21 (0, 0))) ∧ (A.heap[cb95]? = some (.cells [(.pointer (some ⟨cb17, 0, none⟩))].toArray 25 (0, 0))) ∧ (A.heap[cb99]? = some (.cells [(.pointer (some ⟨cb17, 0, none⟩))].toArray 25 (0, 0))) ∧ (Row A w.heap.size 104 3 encSpanF v_cb17_0 am) ∧ (∀ g, Value.ownBlock v_cb17_0 = some g → ¬ Iv w96.heap.size K g) ∧ (Below w.heap.size w A) ∧ (kk = sizeG pre) ∧ (ll = lastH pre)) (fun K c pre A => False) ?_ ?_ ?_ ?_ ?_ ?_
      · intro A hA
        exact ⟨0, (-1), obj_below o_x4 hA, obj_below o_cb17 hA, obj_below o_x5 hA, obj_below o_x13 hA, obj_below o_x14 hA, obj_below o_cb95 hA, obj_below o_cb99 hA, r_cb17_0.below hA, nr_old r_cb17_0 _, hb.trans (hA.mono hs), by rfl, by rfl⟩
      · rintro K pre A B ⟨kk, ll, o_x4, o_cb17, o_x5, o_x13, o_x14, o_cb95, o_cb99, r_cb17_0, nr_r_cb17_0, hb, r1, r2⟩ hc
        exact ⟨kk, ll, obj_ch o_x4 hc (fun h => Nat.not_lt.2 h.1 lt_x4_0), obj_ch o_cb17 hc (fun h => Nat.not_lt.2 h.1 lt_cb17_0), obj_ch o_x5 hc (fun h => Nat.not_lt.2 h.1 lt_x5_0), obj_ch o_x13 hc (fun h => Nat.not_lt.2 h.1 lt_x13_0), obj_ch o_x14 hc (fun h => Nat.not_lt.2 h.1 lt_x14_0), obj_ch o_cb95 hc (fun h => Nat.not_lt.2 h.1 lt_cb95_0), obj_ch o_cb99 hc (fun h => Nat.not_lt.2 h.1 lt_cb99_0), r_cb17_0.ch hc nr_r_cb17_0, nr_r_cb17_0, hc.below hb hb.size (fun k h => Nat.le_trans hs_0 h.1), r1, r2⟩
      · intro K c _ A B h hc; exact h.elim
      · intro l K pre x A hi hN hK0 hK hpre
        obtain ⟨kk, ll, o_x4, o_cb17, o_x5, o_x13, o_x14, o_cb95, o_cb99, r_cb17_0, nr_r_cb17_0, hb, r1, r2⟩ := hi
        have hs := hb.size
        have hk := Kp.refl (w96.heap.size) K A
        have nv_x4 : ¬ Iv (w96.heap.size) K b1 := fun h => Nat.not_lt.2 h.1 lt_x4_0
        have nv_cb17 : ¬ Iv (w96.heap.size) K cb17 := fun h => Nat.not_lt.2 h.1 lt_cb17_0
        have nv_x5 : ¬ Iv (w96.heap.size) K b18 := fun h => Nat.not_lt.2 h.1 lt_x5_0
        have nv_x13 : ¬ Iv (w96.heap.size) K b82 := fun h => Nat.not_lt.2 h.1 lt_x13_0
        have nv_x14 : ¬ Iv (w96.heap.size) K b87 := fun h => Nat.not_lt.2 h.1 lt_x14_0
        have nv_cb95 : ¬ Iv (w96.heap.size) K cb95 := fun h => Nat.not_lt.2 h.1 lt_cb95_0
        have nv_cb99 : ¬ Iv (w96.heap.size) K cb99 := fun h => Nat.not_lt.2 h.1 lt_cb99_0
        have p_l := in_p_l.below hb
        have p_val := in_p_val.below hb
        replace o_cb99 := hN.1
        replace o_cb17 := hN.2.1
        have hx := i2.pre hpre
        have hput := at_last (z := 0) i2 (tk_one hpre)
        have hzp := size_bd (rise_pre i2 hpre)
        refine W_seq (W_region (L_new (fun b => .pointer (some ⟨b, 0, none⟩)) (.cells [(.int .i32 0), (.int .i32 0)].toArray 29 (0, 0)) (by kernel_rfl) (by kernel_rfl) ?_))
        intro b100 w101 hN102
        have ne_x4_x15 : b1 ≠ b100 := by have := (obj_lt o_x4); have := hN102.num; omega
        have ne_x15_x4 := ne_x4_x15.symm
        have ne_cb17_x15 : cb17 ≠ b100 := by have := (obj_lt o_cb17); have := hN102.num; omega
        have ne_x15_cb17 := ne_cb17_x15.symm
        have ne_x5_x15 : b18 ≠ b100 := by have := (obj_lt o_x5); have := hN102.num; omega
        have ne_x15_x5 := ne_x5_x15.symm
        have ne_x13_x15 : b82 ≠ b100 := by have := (obj_lt o_x13); have := hN102.num; omega
        have ne_x15_x13 := ne_x13_x15.symm
        have ne_x14_x15 : b87 ≠ b100 := by have := (obj_lt o_x14); have := hN102.num; omega
        have ne_x15_x14 := ne_x14_x15.symm
        have ne_cb95_x15 : cb95 ≠ b100 := by have := (obj_lt o_cb95); have := hN102.num; omega
        have ne_x15_cb95 := ne_cb95_x15.symm
        have ne_cb99_x15 : cb99 ≠ b100 := by have := (obj_lt o_cb99); have := hN102.num; omega
        have ne_x15_cb99 := ne_cb99_x15.symm
        have g_x15 : w.heap.size ≤ b100 := by rw [hN102.num]; exact hs
        have nv_x15 : ¬ Iv w96.heap.size K b100 := fun h => by have := h.2; have := hN102.num; omega
        replace hb := hb.trans (hN102.below.mono hs)
        replace hk := hk.ch (Ch.of_below hN102.below) hK (fun _ h => h.elim)
        replace hK := Nat.le_trans hK (hN102.below.size)
        replace hs := Nat.le_trans hs (hN102.below.size)
        replace o_x4 := obj_below o_x4 hN102.below
        replace o_cb17 := obj_below o_cb17 hN102.below
        replace o_x5 := obj_below o_x5 hN102.below
        replace o_x13 := obj_below o_x13 hN102.below
        replace o_x14 := obj_below o_x14 hN102.below
        replace o_cb95 := obj_below o_cb95 hN102.below
        replace o_cb99 := obj_below o_cb99 hN102.below
        replace p_l := p_l.below hN102.below
        replace p_val := p_val.below hN102.below
        replace r_cb17_0 := r_cb17_0.below hN102.below
        have o_x15 := hN102.here
        refine L_storeA b100 0 [(.int .i32 x.1), (.int .i32 x.2.1)] [(.int .i32 0), (.int .i32 0)] [(.int .i32 x.1), (.int .i32 x.2.1)] 29 (by kernel_rfl) (by kernel_rfl) rfl (by kernel_rfl) o_x15 (by kernel_rfl) rfl ?_
        intro w103 hW104
        replace hb := hb.trans (hW104.below g_x15)
        replace hk := hk.ch (Ch.of_wrote hW104) hK (fun k e h => nv_x15 (e ▸ h))
        replace hK := Nat.le_trans hK (Nat.le_of_eq hW104.size.symm)
        replace hs := Nat.le_trans hs (Nat.le_of_eq hW104.size.symm)
        have n_o_x4 := obj_wrote o_x4 hW104 (obj_ne o_x4 o_x15 (by simp))
        have n_o_cb17 := obj_wrote o_cb17 hW104 (obj_ne o_cb17 o_x15 (by simp))
        have n_o_x5 := obj_wrote o_x5 hW104 (obj_ne o_x5 o_x15 (by simp))
        have n_o_x13 := obj_wrote o_x13 hW104 (obj_ne o_x13 o_x15 (by simp))
        have n_o_x14 := obj_wrote o_x14 hW104 (obj_ne o_x14 o_x15 (by simp))
        have n_o_cb95 := obj_wrote o_cb95 hW104 (obj_ne o_cb95 o_x15 (by simp))
        have n_o_cb99 := obj_wrote o_cb99 hW104 (obj_ne o_cb99 o_x15 (by simp))
        have n_p_l := in_p_l.below hb
        have n_p_val := in_p_val.below hb
        have n_r_cb17_0 := r_cb17_0.wrote hW104 (r_cb17_0.ne o_x15 (by simp))
        replace o_x4 := n_o_x4; clear n_o_x4
        replace o_cb17 := n_o_cb17; clear n_o_cb17
        replace o_x5 := n_o_x5; clear n_o_x5
        replace o_x13 := n_o_x13; clear n_o_x13
        replace o_x14 := n_o_x14; clear n_o_x14
        replace o_cb95 := n_o_cb95; clear n_o_cb95
        replace o_cb99 := n_o_cb99; clear n_o_cb99
        replace p_l := n_p_l; clear n_p_l
        replace p_val := n_p_val; clear n_p_val
        replace r_cb17_0 := n_r_cb17_0; clear n_r_cb17_0
        replace o_x15 := hW104.here
        refine L_nil (thenQ_normal (W_region (L_as (L_nil ?_))))
        refine thenQ_normal ⟨hk, ?_⟩
        intro w105 hc106
        replace o_x4 := obj_ch o_x4 hc106 nv_x4
        replace o_cb17 := obj_ch o_cb17 hc106 nv_cb17
        replace o_x5 := obj_ch o_x5 hc106 nv_x5
        replace o_x13 := obj_ch o_x13 hc106 nv_x13
        replace o_x14 := obj_ch o_x14 hc106 nv_x14
        replace o_cb95 := obj_ch o_cb95 hc106 nv_cb95
        replace o_cb99 := obj_ch o_cb99 hc106 nv_cb99
        replace o_x15 := obj_ch o_x15 hc106 nv_x15
        replace r_cb17_0 := r_cb17_0.ch hc106 nr_r_cb17_0
        replace hb := hc106.below hb hs (fun k h => Nat.le_trans hs_0 h.1)
        replace p_l := in_p_l.below hb
        replace p_val := in_p_val.below hb
        replace hs := hb.size
        replace hK := Nat.le_trans hK hc106.size
        replace hk := Kp.refl (w96.heap.size) K w105
        refine W_block (W_seq (W_seq (W_region (L_run (.pointer (some ⟨b100, 0, none⟩)) (by kernel_rfl) (by kernel_rfl) (L_load b100 0 (.int .i32 x.1) (by kernel_rfl) (by kernel_rfl) (cell_obj o_x15 rfl) (L_load b87 0 (.int .i32 ll) (by kernel_rfl) (by kernel_rfl) (cell_obj o_x14 rfl) (L_cmp .i32 x.1 ll (x.1 ≤ ll) rfl (cmp_le x.1 ll) (by kernel_rfl) (by kernel_rfl) ?_ ?_)))))))
        · intro h107
          replace h107 : x.1 ≤ ll := by omega
          exfalso; have hz := last_lt i2 hpre; omega
        · intro h108
          replace h108 : ll < x.1 := by omega
          refine L_mv (L_want (by kernel_rfl) (L_run (.pointer (some ⟨b100, 1, none⟩)) (by kernel_rfl) (by kernel_rfl) (L_want (by kernel_rfl) (L_load b100 1 (.int .i32 x.2.1) (by kernel_rfl) (by kernel_rfl) (cell_obj o_x15 rfl) (L_want (by kernel_rfl) (L_run (.pointer (some ⟨b100, 0, none⟩)) (by kernel_rfl) (by kernel_rfl) (L_want (by kernel_rfl) (L_load b100 0 (.int .i32 x.1) (by kernel_rfl) (by kernel_rfl) (cell_obj o_x15 rfl) (L_want (by kernel_rfl) (L_cmp .i32 x.2.1 x.1 (x.2.1 < x.1) rfl (cmp_lt x.2.1 x.1) (by kernel_rfl) (by kernel_rfl) ?_ ?_))))))))))
          · intro h109
            replace h109 : x.2.1 < x.1 := by omega
            exfalso; omega
          · intro h110
            replace h110 : x.1 ≤ x.2.1 := by omega
            refine L_pickF (by kernel_rfl) (L_nil (thenQ_normal (W_false (by kernel_rfl) (W_skip (thenQ_normal (W_seq (W_region (L_run (.pointer (some ⟨b100, 1, none⟩)) (by kernel_rfl) (by kernel_rfl) (L_load b100 1 (.int .i32 x.2.1) (by kernel_rfl) (by kernel_rfl) (cell_obj o_x15 rfl) (L_store b87 0 (.int .i32 x.2.1) [(.int .i32 ll)] [(.int .i32 x.2.1)] 21 (by kernel_rfl) (by kernel_rfl) rfl (by kernel_rfl) o_x14 (by simp) rfl ?_))))))))))
            intro w111 hW112
            replace hb := hb.trans (hW112.below g_x14)
            replace hk := hk.ch (Ch.of_wrote hW112) hK (fun k e h => nv_x14 (e ▸ h))
            replace hK := Nat.le_trans hK (Nat.le_of_eq hW112.size.symm)
            replace hs := Nat.le_trans hs (Nat.le_of_eq hW112.size.symm)
            have n_o_x4 := obj_wrote o_x4 hW112 (obj_ne o_x4 o_x14 (by simp))
            have n_o_cb17 := obj_wrote o_cb17 hW112 (obj_ne o_cb17 o_x14 (by simp))
            have n_o_x5 := obj_wrote o_x5 hW112 (obj_ne o_x5 o_x14 (by simp))
            have n_o_x13 := obj_wrote o_x13 hW112 (obj_ne o_x13 o_x14 (by simp))
            have n_o_cb95 := obj_wrote o_cb95 hW112 (obj_ne o_cb95 o_x14 (by simp))
            have n_o_cb99 := obj_wrote o_cb99 hW112 (obj_ne o_cb99 o_x14 (by simp))
            have n_o_x15 := obj_wrote o_x15 hW112 (obj_ne o_x15 o_x14 (by simp))
            have n_p_l := in_p_l.below hb
            have n_p_val := in_p_val.below hb
            have n_r_cb17_0 := r_cb17_0.wrote hW112 (r_cb17_0.ne o_x14 (by simp))
            replace o_x4 := n_o_x4; clear n_o_x4
            replace o_cb17 := n_o_cb17; clear n_o_cb17
            replace o_x5 := n_o_x5; clear n_o_x5
            replace o_x13 := n_o_x13; clear n_o_x13
            replace o_cb95 := n_o_cb95; clear n_o_cb95
            replace o_cb99 := n_o_cb99; clear n_o_cb99
            replace o_x15 := n_o_x15; clear n_o_x15
            replace p_l := n_p_l; clear n_p_l
            replace p_val := n_p_val; clear n_p_val
            replace r_cb17_0 := n_r_cb17_0; clear n_r_cb17_0
            replace o_x14 := hW112.here
            refine L_nil (thenQ_normal (W_seq (W_region (L_load b18 0 (.pointer (some ⟨cb17, 0, none⟩)) (by kernel_rfl) (by kernel_rfl) (cell_obj o_x5 rfl) (L_run (.pointer (some ⟨b100, 1, none⟩)) (by kernel_rfl) (by kernel_rfl) (L_load b100 1 (.int .i32 x.2.1) (by kernel_rfl) (by kernel_rfl) (cell_obj o_x15 rfl) (L_call 11 [(.pointer (some ⟨cb17, 0, none⟩)), (.int .i32 x.2.1)] (by kernel_rfl) (by kernel_rfl) (c_at_F cb17 v_cb17_0 am x.2.1 _ o_cb17 r_cb17_0.rd (by first | exact i2 | exact putF_rise i2)) ?_)))))))
            rintro _ w113 ⟨rfl, hB114⟩
            replace hb := hb.trans (hB114.mono hs)
            replace hk := hk.ch (Ch.of_below hB114) hK (fun _ h => h.elim)
            replace hK := Nat.le_trans hK (hB114.size)
            replace hs := Nat.le_trans hs (hB114.size)
            replace o_x4 := obj_below o_x4 hB114
            replace o_cb17 := obj_below o_cb17 hB114
            replace o_x5 := obj_below o_x5 hB114
            replace o_x13 := obj_below o_x13 hB114
            replace o_x14 := obj_below o_x14 hB114
            replace o_cb95 := obj_below o_cb95 hB114
            replace o_cb99 := obj_below o_cb99 hB114
            replace o_x15 := obj_below o_x15 hB114
            replace p_l := p_l.below hB114
            replace p_val := p_val.below hB114
            replace r_cb17_0 := r_cb17_0.below hB114
            refine L_mv (L_run (.float .f64 ((atG 0 am x.2.1).1)) (by kernel_rfl) (by kernel_rfl) (L_run (.bool ((atG 0 am x.2.1).2)) (by kernel_rfl) (by kernel_rfl) (put_split ((atG 0 am x.2.1).2) ?_ ?_)))
            · intro h116
              refine L_as (L_as (L_nil (thenQ_normal (W_seq (W_seq (W_region (L_mv (L_not true (by kernel_rfl) (L_mv (L_want (by kernel_rfl) (L_mv (L_want (by kernel_rfl) (L_mv (L_want (by kernel_rfl) (L_fNe ((atG 0 am x.2.1).1) x.2.2 (eqF ((atG 0 am x.2.1).1) x.2.2) (by kernel_rfl) (by kernel_rfl) (by rfl) ?_ ?_)))))))))))))))
              · intro h117
                refine L_want (by kernel_rfl) (L_mv (L_want (by kernel_rfl) (L_mv (L_want (by kernel_rfl) (L_mv (L_want (by kernel_rfl) (L_fEq ((atG 0 am x.2.1).1) ((atG 0 am x.2.1).1) (eqF ((atG 0 am x.2.1).1) ((atG 0 am x.2.1).1)) (by kernel_rfl) (by kernel_rfl) (by rfl) ?_ ?_)))))))
                · intro h118
                  exfalso; exact flt_no hput (by assumption) h118
                · intro h119
                  refine L_want (by kernel_rfl) (L_mv (L_want (by kernel_rfl) (L_mv (L_want (by kernel_rfl) (L_mv (L_want (by kernel_rfl) (L_fEq x.2.2 x.2.2 (eqF x.2.2 x.2.2) (by kernel_rfl) (by kernel_rfl) (by rfl) ?_ ?_)))))))
                  · intro h120
                    exfalso; exact flt_no2 hput (by assumption) h120
                  · intro h121
                    refine L_want (by kernel_rfl) (L_pickF (by kernel_rfl) (L_want (by kernel_rfl) (L_pickT (by kernel_rfl) (L_pickF (by kernel_rfl) (L_nil (thenQ_normal (W_false (by kernel_rfl) (W_skip (thenQ_normal (W_region (L_load b82 0 (.int .i64 kk) (by kernel_rfl) (by kernel_rfl) (cell_obj o_x13 rfl) (L_run (.pointer (some ⟨b100, 1, none⟩)) (by kernel_rfl) (by kernel_rfl) (L_load b100 1 (.int .i32 x.2.1) (by kernel_rfl) (by kernel_rfl) (cell_obj o_x15 rfl) (L_run (.pointer (some ⟨b100, 0, none⟩)) (by kernel_rfl) (by kernel_rfl) (L_load b100 0 (.int .i32 x.1) (by kernel_rfl) (by kernel_rfl) (cell_obj o_x15 rfl) (L_arith x.2.1 x.1 (x.2.1 - x.1) rfl (by kernel_rfl) (by kernel_rfl) (wrap_i32 _ (by simp only [arithZ]; omega) (by simp only [arithZ]; omega)) (L_conv (k := .i32) (x.2.1 - x.1) (x.2.1 - x.1) (by kernel_rfl) Try.underlying3 (by kernel_rfl) (wrap_i64 _ (by omega) (by omega)) (L_arith kk (x.2.1 - x.1) (kk + (x.2.1 - x.1)) rfl (by kernel_rfl) (by kernel_rfl) (wrap_i64 _ (by simp only [arithZ]; omega) (by simp only [arithZ]; omega)) (L_arith (kk + (x.2.1 - x.1)) 1 ((kk + (x.2.1 - x.1)) + 1) rfl (by kernel_rfl) (by kernel_rfl) (wrap_i64 _ (by simp only [arithZ]; omega) (by simp only [arithZ]; omega)) (L_store b82 0 (.int .i64 ((kk + (x.2.1 - x.1)) + 1)) [(.int .i64 kk)] [(.int .i64 ((kk + (x.2.1 - x.1)) + 1))] 3 (by kernel_rfl) (by kernel_rfl) rfl (by kernel_rfl) o_x13 (by simp) rfl ?_))))))))))))))))))))
                    intro w122 hW123
                    replace hb := hb.trans (hW123.below g_x13)
                    replace hk := hk.ch (Ch.of_wrote hW123) hK (fun k e h => nv_x13 (e ▸ h))
                    replace hK := Nat.le_trans hK (Nat.le_of_eq hW123.size.symm)
                    replace hs := Nat.le_trans hs (Nat.le_of_eq hW123.size.symm)
                    have n_o_x4 := obj_wrote o_x4 hW123 (obj_ne o_x4 o_x13 (by simp))
                    have n_o_cb17 := obj_wrote o_cb17 hW123 (obj_ne o_cb17 o_x13 (by simp))
                    have n_o_x5 := obj_wrote o_x5 hW123 (obj_ne o_x5 o_x13 (by simp))
                    have n_o_x14 := obj_wrote o_x14 hW123 (obj_ne o_x14 o_x13 (by simp))
                    have n_o_cb95 := obj_wrote o_cb95 hW123 (obj_ne o_cb95 o_x13 (by simp))
                    have n_o_cb99 := obj_wrote o_cb99 hW123 (obj_ne o_cb99 o_x13 (by simp))
                    have n_o_x15 := obj_wrote o_x15 hW123 (obj_ne o_x15 o_x13 (by simp))
                    have n_p_l := in_p_l.below hb
                    have n_p_val := in_p_val.below hb
                    have n_r_cb17_0 := r_cb17_0.wrote hW123 (r_cb17_0.ne o_x13 (by simp))
                    replace o_x4 := n_o_x4; clear n_o_x4
                    replace o_cb17 := n_o_cb17; clear n_o_cb17
                    replace o_x5 := n_o_x5; clear n_o_x5
                    replace o_x14 := n_o_x14; clear n_o_x14
                    replace o_cb95 := n_o_cb95; clear n_o_cb95
                    replace o_cb99 := n_o_cb99; clear n_o_cb99
                    replace o_x15 := n_o_x15; clear n_o_x15
                    replace p_l := n_p_l; clear n_p_l
                    replace p_val := n_p_val; clear n_p_val
                    replace r_cb17_0 := n_r_cb17_0; clear n_r_cb17_0
                    replace o_x13 := hW123.here
                    refine L_nil (blkQ_normal ?_)
                    refine round_normal hk ⟨o_cb99, o_cb17, r_cb17_0.rd⟩ ⟨((kk + (x.2.1 - x.1)) + 1), x.2.1, o_x4, o_cb17, o_x5, o_x13, o_x14, o_cb95, o_cb99, r_cb17_0, nr_r_cb17_0, hb, ?_, ?_⟩
                    · rw [r1]; exact size_pre pre x
                    · exact (last_snoc pre x).symm
              · intro h124
                refine L_want (by kernel_rfl) (L_mv (L_skip (by kernel_rfl) (L_skip (by kernel_rfl) (L_skip (by kernel_rfl) (L_skip (by kernel_rfl) (L_skip (by kernel_rfl) (L_skip (by kernel_rfl) (L_skip (by kernel_rfl) (L_skip (by kernel_rfl) (L_want (by kernel_rfl) (L_pickF (by kernel_rfl) (L_pickF (by kernel_rfl) (L_nil (thenQ_normal (W_false (by kernel_rfl) (W_skip (thenQ_normal (W_region (L_load b82 0 (.int .i64 kk) (by kernel_rfl) (by kernel_rfl) (cell_obj o_x13 rfl) (L_run (.pointer (some ⟨b100, 1, none⟩)) (by kernel_rfl) (by kernel_rfl) (L_load b100 1 (.int .i32 x.2.1) (by kernel_rfl) (by kernel_rfl) (cell_obj o_x15 rfl) (L_run (.pointer (some ⟨b100, 0, none⟩)) (by kernel_rfl) (by kernel_rfl) (L_load b100 0 (.int .i32 x.1) (by kernel_rfl) (by kernel_rfl) (cell_obj o_x15 rfl) (L_arith x.2.1 x.1 (x.2.1 - x.1) rfl (by kernel_rfl) (by kernel_rfl) (wrap_i32 _ (by simp only [arithZ]; omega) (by simp only [arithZ]; omega)) (L_conv (k := .i32) (x.2.1 - x.1) (x.2.1 - x.1) (by kernel_rfl) Try.underlying3 (by kernel_rfl) (wrap_i64 _ (by omega) (by omega)) (L_arith kk (x.2.1 - x.1) (kk + (x.2.1 - x.1)) rfl (by kernel_rfl) (by kernel_rfl) (wrap_i64 _ (by simp only [arithZ]; omega) (by simp only [arithZ]; omega)) (L_arith (kk + (x.2.1 - x.1)) 1 ((kk + (x.2.1 - x.1)) + 1) rfl (by kernel_rfl) (by kernel_rfl) (wrap_i64 _ (by simp only [arithZ]; omega) (by simp only [arithZ]; omega)) (L_store b82 0 (.int .i64 ((kk + (x.2.1 - x.1)) + 1)) [(.int .i64 kk)] [(.int .i64 ((kk + (x.2.1 - x.1)) + 1))] 3 (by kernel_rfl) (by kernel_rfl) rfl (by kernel_rfl) o_x13 (by simp) rfl ?_))))))))))))))))))))))))))))
                intro w125 hW126
                replace hb := hb.trans (hW126.below g_x13)
                replace hk := hk.ch (Ch.of_wrote hW126) hK (fun k e h => nv_x13 (e ▸ h))
                replace hK := Nat.le_trans hK (Nat.le_of_eq hW126.size.symm)
                replace hs := Nat.le_trans hs (Nat.le_of_eq hW126.size.symm)
                have n_o_x4 := obj_wrote o_x4 hW126 (obj_ne o_x4 o_x13 (by simp))
                have n_o_cb17 := obj_wrote o_cb17 hW126 (obj_ne o_cb17 o_x13 (by simp))
                have n_o_x5 := obj_wrote o_x5 hW126 (obj_ne o_x5 o_x13 (by simp))
                have n_o_x14 := obj_wrote o_x14 hW126 (obj_ne o_x14 o_x13 (by simp))
                have n_o_cb95 := obj_wrote o_cb95 hW126 (obj_ne o_cb95 o_x13 (by simp))
                have n_o_cb99 := obj_wrote o_cb99 hW126 (obj_ne o_cb99 o_x13 (by simp))
                have n_o_x15 := obj_wrote o_x15 hW126 (obj_ne o_x15 o_x13 (by simp))
                have n_p_l := in_p_l.below hb
                have n_p_val := in_p_val.below hb
                have n_r_cb17_0 := r_cb17_0.wrote hW126 (r_cb17_0.ne o_x13 (by simp))
                replace o_x4 := n_o_x4; clear n_o_x4
                replace o_cb17 := n_o_cb17; clear n_o_cb17
                replace o_x5 := n_o_x5; clear n_o_x5
                replace o_x14 := n_o_x14; clear n_o_x14
                replace o_cb95 := n_o_cb95; clear n_o_cb95
                replace o_cb99 := n_o_cb99; clear n_o_cb99
                replace o_x15 := n_o_x15; clear n_o_x15
                replace p_l := n_p_l; clear n_p_l
                replace p_val := n_p_val; clear n_p_val
                replace r_cb17_0 := n_r_cb17_0; clear n_r_cb17_0
                replace o_x13 := hW126.here
                refine L_nil (blkQ_normal ?_)
                refine round_normal hk ⟨o_cb99, o_cb17, r_cb17_0.rd⟩ ⟨((kk + (x.2.1 - x.1)) + 1), x.2.1, o_x4, o_cb17, o_x5, o_x13, o_x14, o_cb95, o_cb99, r_cb17_0, nr_r_cb17_0, hb, ?_, ?_⟩
                · rw [r1]; exact size_pre pre x
                · exact (last_snoc pre x).symm
            · intro h127
              exfalso; rw [hput] at h127; cases h127
      · intro K A hi hsz o_D0
        obtain ⟨kk, ll, o_x4, o_cb17, o_x5, o_x13, o_x14, o_cb95, o_cb99, r_cb17_0, nr_r_cb17_0, hb, r1, r2⟩ := hi
        have p_l := in_p_l.below hb
        have p_val := in_p_val.below hb
        have ne_x4_D0 : b1 ≠ w96.heap.size := Nat.ne_of_lt lt_x4_0
        have ne_D0_x4 := ne_x4_D0.symm
        have ne_cb17_D0 : cb17 ≠ w96.heap.size := Nat.ne_of_lt lt_cb17_0
        have ne_D0_cb17 := ne_cb17_D0.symm
        have ne_x5_D0 : b18 ≠ w96.heap.size := Nat.ne_of_lt lt_x5_0
        have ne_D0_x5 := ne_x5_D0.symm
        have ne_x13_D0 : b82 ≠ w96.heap.size := Nat.ne_of_lt lt_x13_0
        have ne_D0_x13 := ne_x13_D0.symm
        have ne_x14_D0 : b87 ≠ w96.heap.size := Nat.ne_of_lt lt_x14_0
        have ne_D0_x14 := ne_x14_D0.symm
        have ne_cb95_D0 : cb95 ≠ w96.heap.size := Nat.ne_of_lt lt_cb95_0
        have ne_D0_cb95 := ne_cb95_D0.symm
        have ne_cb99_D0 : cb99 ≠ w96.heap.size := Nat.ne_of_lt lt_cb99_0
        have ne_D0_cb99 := ne_cb99_D0.symm
        have hs : w.heap.size ≤ _ := hb.size
        refine blkQ_normal (thenQ_normal (W_seq (W_region (L_load b18 0 (.pointer (some ⟨cb17, 0, none⟩)) (by kernel_rfl) (by kernel_rfl) (cell_obj o_x5 rfl) (L_call 13 [(.pointer (some ⟨cb17, 0, none⟩))] (by kernel_rfl) (by kernel_rfl) (c_size_F cb17 v_cb17_0 am _ o_cb17 r_cb17_0.rd (by first | exact i2 | exact putF_rise i2)) ?_)))))
        rintro _ w128 ⟨rfl, hB129⟩
        replace hb := hb.trans (hB129.mono hs)
        replace hs := Nat.le_trans hs (hB129.size)
        replace o_x4 := obj_below o_x4 hB129
        replace o_cb17 := obj_below o_cb17 hB129
        replace o_x5 := obj_below o_x5 hB129
        replace o_x13 := obj_below o_x13 hB129
        replace o_x14 := obj_below o_x14 hB129
        replace o_cb95 := obj_below o_cb95 hB129
        replace o_cb99 := obj_below o_cb99 hB129
        replace o_D0 := obj_below o_D0 hB129
        replace p_l := p_l.below hB129
        replace p_val := p_val.below hB129
        replace r_cb17_0 := r_cb17_0.below hB129
        refine L_mv (L_cmp .i64 (sizeG am) n ((sizeG am) = n) rfl (cmp_eq (sizeG am) n) (by kernel_rfl) (by kernel_rfl) ?_ ?_)
        · intro h131
          replace h131 : (sizeG am) = n := by omega
          refine L_mv (L_want (by kernel_rfl) (L_load b82 0 (.int .i64 kk) (by kernel_rfl) (by kernel_rfl) (cell_obj o_x13 rfl) (L_want (by kernel_rfl) (L_mv (L_want (by kernel_rfl) (L_cmp .i64 kk n (kk = n) rfl (cmp_eq kk n) (by kernel_rfl) (by kernel_rfl) ?_ ?_))))))
          · intro h132
            replace h132 : kk = n := by omega
            refine L_pickT (by kernel_rfl) (L_store b1 0 (.bool true) [(.bool false)] [(.bool true)] 4 (by kernel_rfl) (by kernel_rfl) rfl (by kernel_rfl) o_x4 (by simp) rfl ?_)
            intro w133 hW134
            replace hb := hb.trans (hW134.below g_x4)
            replace hs := Nat.le_trans hs (Nat.le_of_eq hW134.size.symm)
            have n_o_cb17 := obj_wrote o_cb17 hW134 (obj_ne o_cb17 o_x4 (by simp))
            have n_o_x5 := obj_wrote o_x5 hW134 (obj_ne o_x5 o_x4 (by simp))
            have n_o_x13 := obj_wrote o_x13 hW134 (obj_ne o_x13 o_x4 (by simp))
            have n_o_x14 := obj_wrote o_x14 hW134 (obj_ne o_x14 o_x4 (by simp))
            have n_o_cb95 := obj_wrote o_cb95 hW134 (obj_ne o_cb95 o_x4 (by simp))
            have n_o_cb99 := obj_wrote o_cb99 hW134 (obj_ne o_cb99 o_x4 (by simp))
            have n_o_D0 := obj_wrote o_D0 hW134 (obj_ne o_D0 o_x4 (by simp))
            have n_p_l := in_p_l.below hb
            have n_p_val := in_p_val.below hb
            have n_r_cb17_0 := r_cb17_0.wrote hW134 (r_cb17_0.ne o_x4 (by simp))
            replace o_cb17 := n_o_cb17; clear n_o_cb17
            replace o_x5 := n_o_x5; clear n_o_x5
            replace o_x13 := n_o_x13; clear n_o_x13
            replace o_x14 := n_o_x14; clear n_o_x14
            replace o_cb95 := n_o_cb95; clear n_o_cb95
            replace o_cb99 := n_o_cb99; clear n_o_cb99
            replace o_D0 := n_o_D0; clear n_o_D0
            replace p_l := n_p_l; clear n_p_l
            replace p_val := n_p_val; clear n_p_val
            replace r_cb17_0 := n_r_cb17_0; clear n_r_cb17_0
            replace o_x4 := hW134.here
            refine L_nil (thenQ_normal (W_ret (end_retM (ds := [⟨.collected w96.heap.size, #[]⟩]) (congrArg (List.cons _) hds) (Lv_mark o_D0 ?_))))
            intro w135 hW136
            replace hb := hb.trans (hW136.below hs_0)
            replace hs := Nat.le_trans hs (Nat.le_of_eq hW136.size.symm)
            have n_o_x4 := obj_wrote o_x4 hW136 (obj_ne o_x4 o_D0 (by simp))
            have n_o_cb17 := obj_wrote o_cb17 hW136 (obj_ne o_cb17 o_D0 (by simp))
            have n_o_x5 := obj_wrote o_x5 hW136 (obj_ne o_x5 o_D0 (by simp))
            have n_o_x13 := obj_wrote o_x13 hW136 (obj_ne o_x13 o_D0 (by simp))
            have n_o_x14 := obj_wrote o_x14 hW136 (obj_ne o_x14 o_D0 (by simp))
            have n_o_cb95 := obj_wrote o_cb95 hW136 (obj_ne o_cb95 o_D0 (by simp))
            have n_o_cb99 := obj_wrote o_cb99 hW136 (obj_ne o_cb99 o_D0 (by simp))
            have n_p_l := in_p_l.below hb
            have n_p_val := in_p_val.below hb
            have n_r_cb17_0 := r_cb17_0.wrote hW136 (r_cb17_0.ne o_D0 (by simp))
            replace o_x4 := n_o_x4; clear n_o_x4
            replace o_cb17 := n_o_cb17; clear n_o_cb17
            replace o_x5 := n_o_x5; clear n_o_x5
            replace o_x13 := n_o_x13; clear n_o_x13
            replace o_x14 := n_o_x14; clear n_o_x14
            replace o_cb95 := n_o_cb95; clear n_o_cb95
            replace o_cb99 := n_o_cb99; clear n_o_cb99
            replace p_l := n_p_l; clear n_p_l
            replace p_val := n_p_val; clear n_p_val
            replace r_cb17_0 := n_r_cb17_0; clear n_r_cb17_0
            replace o_D0 := hW136.here
            refine Lv_nil [.cell 4 4] [(.bool true)] rfl ⟨⟨⟨b1, 0, none⟩, by kernel_rfl, load_one (by kernel_rfl) (cell_obj o_x4 rfl)⟩, trivial⟩ ?_
            have e0 : true = true := by first | rfl | exact Eq.symm (by assumption)
            exact ⟨congrArg Value.bool e0, hb⟩
          · intro h137
            replace h137 : kk ≠ n := by omega
            exfalso; omega
        · intro h138
          replace h138 : (sizeG am) ≠ n := by omega
          exfalso; omega
      · intro K c _ x A _ h; exact h.elim

end Go.Proofs.Ythjgnnfonofgkaa
