/- Walks, written by my program walk.py out of the specification gone.py: each theorem says what one function returns and that it leaves memory as it was. -/
import Derived.Test.YthjgnnfonofgkaaPOne
import Derived.Test.YthjgnnfonofgkaaWghex
import Derived.Test.YthjgnnfonofgkaaWgmS
import Derived.Test.YthjgnnfonofgkaaWgnS
import Derived.Test.YthjgnnfonofgkaaWgliv
import Derived.Test.YthjgnnfonofgkaaWgmB
import Derived.Test.YthjgnnfonofgkaaWgnB
import Derived.Test.YthjgnnfonofgkaaFKad
import Derived.Test.YthjgnnfonofgkaaProg
import Derived.Tactics2
import Derived.Test.YthjgnnfonofgkaaFKu
import Derived.Test.YthjgnnfonofgkaaFKae
import Derived.Test.YthjgnnfonofgkaaPGL
namespace Go.Proofs.Ythjgnnfonofgkaa
open Go Go.RowKit Go.FK
set_option linter.unusedVariables false
set_option linter.unusedSimpArgs false

theorem valA_in2 {val : List Bool} {i : Nat} {x b : Bool} (h : val[i]? = some x) (e : x = b) : valA val i = b := (valA_in h).trans e
theorem valA_in2' {val : List Bool} {k : Int} {i : Nat} {x b : Bool} (hk : k.toNat = i) (h : val[i]? = some x) (e : x = b) : valA val k = b := (valA_in' hk h).trans e
theorem rg_same {V : Type} {one two : List Rg} {l m : List (SpG V)} (h1 : one = rgs l) (h2 : two = rgs m) (h : l = m) {i : Nat} {x y : Rg} (hx : one[i]? = some x) (hy : two[i]? = some y) : x = y := by subst h1 h2 h; rw [hx] at hy; exact Option.some.inj hy
theorem rg_rise {V : Type} {one : List Rg} {l : List (SpG V)} (h1 : one = rgs l) (hr : RiseG 0 l) {i j : Nat} {r s : Rg} (hij : i < j) (hx : one[i]? = some r) (hy : one[j]? = some s) : r.2 < s.1 := by subst h1; exact rgs_rise hr hij hx hy

theorem el22 : Elem Try.prog 22 29 2 8 := ⟨Try.underlying22, by kernel_rfl, rfl⟩
theorem el46 : Elem Try.prog 46 4 1 1 := ⟨Try.underlying46, by kernel_rfl, rfl⟩
theorem el45 : Elem Try.prog 45 3 1 8 := ⟨Try.underlying45, by kernel_rfl, rfl⟩
set_option maxHeartbeats 4000000 in
set_option maxRecDepth 100000 in
theorem c_same_B (b_a : Nat) (v_xs : Value) (xs : List (Int × Int × Bool)) (b_b : Nat) (v_ys : Value) (ys : List (Int × Int × Bool)) (w : World) (o_a : w.heap[b_a]? = some (.cells [v_xs, (.bool true)].toArray 123 (0, 0))) (p_xs : Rd w encSpanB v_xs xs) (o_b : w.heap[b_b]? = some (.cells [v_ys, (.bool true)].toArray 123 (0, 0))) (p_ys : Rd w encSpanB v_ys ys) (hx : xs.length ≤ 4194304) (hy : ys.length ≤ 4194304) :
    Calls Try.prog 23 #[(.pointer (some ⟨b_a, 0, none⟩)), (.pointer (some ⟨b_b, 0, none⟩))] w (Ret fun v w' => v = (.bool (decide (xs = ys))) ∧ Below w.heap.size w w') := by
  refine enter (args := [(.pointer (some ⟨b_a, 0, none⟩)), (.pointer (some ⟨b_b, 0, none⟩))]) Try.func23 rfl (by kernel_rfl : _ = 10) (by kernel_rfl) ?_
  have hb := Below.refl w.heap.size w
  have hs : w.heap.size ≤ w.heap.size := Nat.le_refl _
  have in_p_xs := p_xs
  have in_p_ys := p_ys
  refine W_seq (W_region (L_as (L_nil (thenQ_normal (W_seq (W_region (L_mv (L_call 68 [(.pointer (some ⟨b_a, 0, none⟩))] (by kernel_rfl) (by kernel_rfl) (c_list_B b_a v_xs xs _ o_a p_xs) ?_))))))))
  rintro qv4 w1 ⟨hqv4, hB2⟩
  subst qv4
  replace hb := hb.trans (hB2.mono hs)
  replace hs := Nat.le_trans hs (hB2.size)
  replace o_a := obj_below o_a hB2
  replace o_b := obj_below o_b hB2
  replace p_xs := p_xs.below hB2
  replace p_ys := p_ys.below hB2
  refine L_mv (L_call 68 [(.pointer (some ⟨b_b, 0, none⟩))] (by kernel_rfl) (by kernel_rfl) (c_list_B b_b v_ys ys _ o_b p_ys) ?_)
  rintro qv8 w5 ⟨hqv8, hB6⟩
  subst qv8
  replace hb := hb.trans (hB6.mono hs)
  replace hs := Nat.le_trans hs (hB6.size)
  replace o_a := obj_below o_a hB6
  replace o_b := obj_below o_b hB6
  replace p_xs := p_xs.below hB6
  replace p_ys := p_ys.below hB6
  refine L_call 67 [v_xs, v_ys] (by kernel_rfl) (by kernel_rfl) (c_equal_B v_xs xs v_ys ys _ p_xs p_ys (by omega) (by omega)) ?_
  rintro _ w9 ⟨rfl, hB10⟩
  replace hb := hb.trans (hB10.mono hs)
  replace hs := Nat.le_trans hs (hB10.size)
  replace o_a := obj_below o_a hB10
  replace o_b := obj_below o_b hB10
  replace p_xs := p_xs.below hB10
  replace p_ys := p_ys.below hB10
  refine put_split (decide (xs = ys)) ?_ ?_
  · intro h12
    refine L_as (L_nil (thenQ_normal (W_ret ?_)))
    refine end_ret [.tmp 4] [(.bool true)] rfl rfl ⟨by kernel_rfl, trivial⟩ ?_
    have e0 : true = (decide (xs = ys)) := by first | rfl | exact Eq.symm (by assumption)
    exact ⟨congrArg Value.bool e0, hb⟩
  · intro h13
    refine L_as (L_nil (thenQ_normal (W_ret ?_)))
    refine end_ret [.tmp 4] [(.bool false)] rfl rfl ⟨by kernel_rfl, trivial⟩ ?_
    have e0 : false = (decide (xs = ys)) := by first | rfl | exact Eq.symm (by assumption)
    exact ⟨congrArg Value.bool e0, hb⟩

set_option maxHeartbeats 4000000 in
set_option maxRecDepth 100000 in
theorem c_furrowlaw04_PointsOneForm (v_l : Value) (l : List (Int × Int)) (v_val : Value) (val : List (Bool)) (w : World) (p_l : Rd w encRg v_l l) (p_val : Rd w encBool v_val val) {m_ml : Int} (hml : w.cell? ⟨0, 0, none⟩ = some (.int .i64 m_ml)) (hlw : ∀ x ∈ l, (-2147483648 ≤ x.1 ∧ x.1 ≤ 2147483647) ∧ (-2147483648 ≤ x.2 ∧ x.2 ≤ 2147483647)) :
    Calls Try.prog 5 #[v_l, v_val] w (Ret fun v w' => v = (.bool true) ∧ Below w.heap.size w w') := by
  refine enterM (args := [v_l, v_val]) Try.func5 rfl (by kernel_rfl : _ = 182) (by kernel_rfl) ?_
  have hb := Below.refl w.heap.size w
  have hs : w.heap.size ≤ w.heap.size := Nat.le_refl _
  have in_p_l := p_l
  have in_p_val := p_val
  refine W_seq (W_region (L_new (fun b => .pointer (some ⟨b, 0, none⟩)) (.cells [(.bool false)].toArray 4 (0, 0)) (by kernel_rfl) (by kernel_rfl) ?_))
  intro b1 w2 hN3
  have g_x4 : w.heap.size ≤ b1 := by rw [hN3.num]; exact hs
  replace hb := hb.trans (hN3.below.mono hs)
  replace hs := Nat.le_trans hs (hN3.below.size)
  replace p_l := p_l.below hN3.below
  replace p_val := p_val.below hN3.below
  have o_x4 := hN3.here
  refine L_nil (thenQ_normal (W_seq (W_seq (W_region (L_mv (L_len 22 29 (l).length v_l rfl Try.underlying22 (p_l).len (by kernel_rfl) (L_cmp .i64 (((l).length : Nat) : Int) ((60 : Nat) : Int) (60 < (l).length) rfl (cmpN_gt ((l).length) 60) (by kernel_rfl) (by kernel_rfl) ?_ ?_)))))))
  · intro h4
    replace h4 : 60 < (l).length := by omega
    refine L_mv (L_skip (by kernel_rfl) (L_skip (by kernel_rfl) (L_pickT (by kernel_rfl) (L_nil (thenQ_normal (W_true (by kernel_rfl) (W_seq (W_region (L_call 8 [] (by kernel_rfl) (by kernel_rfl) (c_lives  _ (gcell_below hml hb)) ?_)))))))))
    rintro _ w5 ⟨rfl, hB6⟩
    replace hb := hb.trans (hB6.mono hs)
    replace hs := Nat.le_trans hs (hB6.size)
    replace o_x4 := obj_below o_x4 hB6
    replace p_l := p_l.below hB6
    replace p_val := p_val.below hB6
    refine L_store b1 0 (.bool true) [(.bool false)] [(.bool true)] 4 (by kernel_rfl) (by kernel_rfl) rfl (by kernel_rfl) o_x4 (by simp) rfl ?_
    intro w8 hW9
    replace hb := hb.trans (hW9.below g_x4)
    replace hs := Nat.le_trans hs (Nat.le_of_eq hW9.size.symm)
    have n_p_l := in_p_l.below hb
    have n_p_val := in_p_val.below hb
    replace p_l := n_p_l; clear n_p_l
    replace p_val := n_p_val; clear n_p_val
    replace o_x4 := hW9.here
    refine L_nil (thenQ_normal (W_ret (thenQ_ret (end_retM (ds := []) (by kernel_rfl) ?_))))
    refine Lv_nil [.cell 4 4] [(.bool true)] rfl ⟨⟨⟨b1, 0, none⟩, by kernel_rfl, load_one (by kernel_rfl) (cell_obj o_x4 rfl)⟩, trivial⟩ ?_
    have e0 : true = true := by first | rfl | exact Eq.symm (by assumption)
    exact ⟨congrArg Value.bool e0, hb⟩
  · intro h10
    replace h10 : (l).length ≤ 60 := by omega
    refine L_mv (L_want (by kernel_rfl) (L_call 8 [] (by kernel_rfl) (by kernel_rfl) (c_lives  _ (gcell_below hml hb)) ?_))
    rintro _ w11 ⟨rfl, hB12⟩
    replace hb := hb.trans (hB12.mono hs)
    replace hs := Nat.le_trans hs (hB12.size)
    replace o_x4 := obj_below o_x4 hB12
    replace p_l := p_l.below hB12
    replace p_val := p_val.below hB12
    refine L_want (by kernel_rfl) (L_not true (by kernel_rfl) (L_pickF (by kernel_rfl) (L_nil (thenQ_normal (W_false (by kernel_rfl) (W_skip (thenQ_normal (W_seq (W_region (L_call 20 [] (by kernel_rfl) (by kernel_rfl) (c_new_B  _ ) ?_))))))))))
    rintro _ w14 ⟨cb17, rfl, o_cb17, g_cb17, hB15⟩
    have ne_x4_cb17 : b1 ≠ cb17 := by have := (obj_lt o_x4); omega
    have ne_cb17_x4 := ne_x4_cb17.symm
    replace g_cb17 := Nat.le_trans hs g_cb17
    replace hb := hb.trans (hB15.mono hs)
    replace hs := Nat.le_trans hs (hB15.size)
    replace o_x4 := obj_below o_x4 hB15
    replace p_l := p_l.below hB15
    replace p_val := p_val.below hB15
    refine L_call 20 [] (by kernel_rfl) (by kernel_rfl) (c_new_B  _ ) ?_
    rintro _ w18 ⟨cb21, rfl, o_cb21, g_cb21, hB19⟩
    have ne_x4_cb21 : b1 ≠ cb21 := by have := (obj_lt o_x4); omega
    have ne_cb21_x4 := ne_x4_cb21.symm
    have ne_cb17_cb21 : cb17 ≠ cb21 := by have := (obj_lt o_cb17); omega
    have ne_cb21_cb17 := ne_cb17_cb21.symm
    replace g_cb21 := Nat.le_trans hs g_cb21
    replace hb := hb.trans (hB19.mono hs)
    replace hs := Nat.le_trans hs (hB19.size)
    replace o_x4 := obj_below o_x4 hB19
    replace o_cb17 := obj_below o_cb17 hB19
    replace p_l := p_l.below hB19
    replace p_val := p_val.below hB19
    refine L_new (fun b => .pointer (some ⟨b, 0, none⟩)) (.cells [(.pointer none)].toArray 54 (0, 0)) (by kernel_rfl) (by kernel_rfl) ?_
    intro b22 w23 hN24
    have ne_x4_x6 : b1 ≠ b22 := by have := (obj_lt o_x4); have := hN24.num; omega
    have ne_x6_x4 := ne_x4_x6.symm
    have ne_cb17_x6 : cb17 ≠ b22 := by have := (obj_lt o_cb17); have := hN24.num; omega
    have ne_x6_cb17 := ne_cb17_x6.symm
    have ne_cb21_x6 : cb21 ≠ b22 := by have := (obj_lt o_cb21); have := hN24.num; omega
    have ne_x6_cb21 := ne_cb21_x6.symm
    have g_x6 : w.heap.size ≤ b22 := by rw [hN24.num]; exact hs
    replace hb := hb.trans (hN24.below.mono hs)
    replace hs := Nat.le_trans hs (hN24.below.size)
    replace o_x4 := obj_below o_x4 hN24.below
    replace o_cb17 := obj_below o_cb17 hN24.below
    replace o_cb21 := obj_below o_cb21 hN24.below
    replace p_l := p_l.below hN24.below
    replace p_val := p_val.below hN24.below
    have o_x6 := hN24.here
    refine L_as (L_store b22 0 (.pointer (some ⟨cb21, 0, none⟩)) [(.pointer none)] [(.pointer (some ⟨cb21, 0, none⟩))] 54 (by kernel_rfl) (by kernel_rfl) rfl (by kernel_rfl) o_x6 (by simp) rfl ?_)
    intro w25 hW26
    replace hb := hb.trans (hW26.below g_x6)
    replace hs := Nat.le_trans hs (Nat.le_of_eq hW26.size.symm)
    have n_o_x4 := obj_wrote o_x4 hW26 (obj_ne o_x4 o_x6 (by simp))
    have n_o_cb17 := obj_wrote o_cb17 hW26 (obj_ne o_cb17 o_x6 (by simp))
    have n_o_cb21 := obj_wrote o_cb21 hW26 (obj_ne o_cb21 o_x6 (by simp))
    have n_p_l := in_p_l.below hb
    have n_p_val := in_p_val.below hb
    replace o_x4 := n_o_x4; clear n_o_x4
    replace o_cb17 := n_o_cb17; clear n_o_cb17
    replace o_cb21 := n_o_cb21; clear n_o_cb21
    replace p_l := n_p_l; clear n_p_l
    replace p_val := n_p_val; clear n_p_val
    replace o_x6 := hW26.here
    refine L_nil (thenQ_normal (W_seq (W_seq (W_region (L_mv (L_run (.bool false) (by kernel_rfl) (by kernel_rfl) (L_mv (L_want (by kernel_rfl) (L_load b22 0 (.pointer (some ⟨cb21, 0, none⟩)) (by kernel_rfl) (by kernel_rfl) (cell_obj o_x6 rfl) (L_want (by kernel_rfl) (L_run (.bool false) (by kernel_rfl) (by kernel_rfl) (L_pickF (by kernel_rfl) (L_nil (thenQ_normal (W_false (by kernel_rfl) (W_skip (thenQ_normal (W_seq (W_region (L_as (L_nil (thenQ_normal (W_seq (W_seq (W_region (L_as (L_nil (thenQ_normal (W_block ?_)))))))))))))))))))))))))))))
    refine W_loop (fun m s0 w0 => ∃ (i : Nat) (am : List SpB) (T : List Int) (v_7 : Value) (v_cb17_0 : Value), (m = l.length - i) ∧ (s0.ds = []) ∧ (s0.f 0 = v_l) ∧ (s0.f 1 = v_val) ∧ (s0.f 4 = (.pointer (some ⟨b1, 0, none⟩))) ∧ (s0.f 5 = (.pointer (some ⟨cb17, 0, none⟩))) ∧ (s0.f 6 = (.pointer (some ⟨b22, 0, none⟩))) ∧ (s0.f 7 = v_7) ∧ (s0.f 8 = (.int .i64 ((i : Nat) : Int))) ∧ (Rd w0 encRg v_l l) ∧ (Rd w0 encBool v_val val) ∧ (Row w0 w.heap.size 3 1 encInt v_7 T) ∧ (Row w0 w.heap.size 127 3 encSpanB v_cb17_0 am) ∧ (w0.heap[b1]? = some (.cells [(.bool false)].toArray 4 (0, 0))) ∧ (w0.heap[cb17]? = some (.cells [v_cb17_0, (.bool true)].toArray 123 (0, 0))) ∧ (w0.heap[cb21]? = some (.cells [(.slice none 0 0), (.bool true)].toArray 123 (0, 0))) ∧ (w0.heap[b22]? = some (.cells [(.pointer (some ⟨cb21, 0, none⟩))].toArray 54 (0, 0))) ∧ (Below w.heap.size w w0) ∧ (w.heap.size ≤ w0.heap.size) ∧ (i ≤ l.length) ∧ (OneI l val i am T) ∧ (T.length ≤ i)) _ ⟨0, [], [], (.slice none 0 0), (.slice none 0 0), rfl, by kernel_rfl, by kernel_rfl, by kernel_rfl, by kernel_rfl, by kernel_rfl, by kernel_rfl, by kernel_rfl, by kernel_rfl, p_l, p_val, Row.nil _ _ _ _ _, Row.nil _ _ _ _ _, o_x4, o_cb17, o_cb21, o_x6, hb, hs, by omega, one_zero l val, (Nat.zero_le _)⟩ ?_
    rintro m27 s28 w29 ⟨i, am, T, v_7, v_cb17_0, hm, hds, f_0, f_1, f_4, f_5, f_6, f_7, f_8, p_l, p_val, r_7, r_cb17_0, o_x4, o_cb17, o_cb21, o_x6, hb, hs, i1, i2, i3⟩
    refine W_set 0 _ f_0 (W_set 1 _ f_1 (W_set 4 _ f_4 (W_set 5 _ f_5 (W_set 6 _ f_6 (W_set 7 _ f_7 (W_set 8 _ f_8 ?_))))))
    clear f_0 f_1 f_4 f_5 f_6 f_7 f_8
    have hal := i2.ok.rise.len
    refine W_seq (W_seq (W_region (L_mv (L_mv (L_len 22 29 (l).length v_l rfl Try.underlying22 (p_l).len (by kernel_rfl) (L_cmp .i64 ((i : Nat) : Int) (((l).length : Nat) : Int) (i < (l).length) rfl (cmpN_lt i ((l).length)) (by kernel_rfl) (by kernel_rfl) ?_ ?_))))))
    · intro h30
      replace h30 : i < (l).length := by omega
      refine L_nil (thenQ_normal (W_true (by kernel_rfl) (W_skip (thenQ_normal (W_seq (W_block (W_seq (W_pre 15 17 2 (by kernel_rfl) (by kernel_rfl) (by kernel_rfl) (by kernel_rfl) (by kernel_rfl) (by kernel_rfl) (by kernel_rfl) (Lq_mv (Lq_mv (Lq_mv ?_)))))))))))
      have hz := get_some l i (by omega); obtain ⟨x31, hx32⟩ := hz
      have hz := (p_l).at (k := 2) (fun _ => rfl) hx32
      obtain ⟨g33, off34, hl35, hc36⟩ := hz
      have hw_x31 := hlw _ (List.mem_of_getElem? hx32)
      refine Lq_ixaddr (k := .i64) v_l i _ g33 off34 el22 hl35 (by omega) (by kernel_rfl) (by kernel_rfl) (Lq_loadA g33 (off34 + i * 2) [(.int .i32 x31.1), (.int .i32 x31.2)] (by kernel_rfl) (fun _ => by kernel_rfl) (fun _ => by kernel_rfl) hc36 (Lq_mv (Lq_mv (Lq_len 46 4 (val).length v_val rfl Try.underlying46 (p_val).len (by kernel_rfl) (Lq_cmp .i64 ((i : Nat) : Int) (((val).length : Nat) : Int) (i < (val).length) rfl (cmpN_lt i ((val).length)) (by kernel_rfl) (by kernel_rfl) ?_ ?_)))))
      · intro h37
        replace h37 : i < (val).length := by omega
        refine Lq_mv (Lq_want (by kernel_rfl) (Lq_mv (Lq_want (by kernel_rfl) (Lq_mv (Lq_want (by kernel_rfl) ?_)))))
        have hz := get_some val i (by omega); obtain ⟨x38, hx39⟩ := hz
        have hz := (p_val).at (k := 1) (fun _ => rfl) hx39
        obtain ⟨g40, off41, hl42, hc43⟩ := hz
        refine Lq_ixaddr (k := .i64) v_val i _ g40 off41 el46 hl42 (by omega) (by kernel_rfl) (by kernel_rfl) (Lq_want (by kernel_rfl) (Lq_load g40 (off41 + i * 1) (.bool x38) (by kernel_rfl) (fun _ => by kernel_rfl) (hc43 0 _ rfl) (Lq_put_split x38 ?_ ?_)))
        · intro h44
          refine Lq_pickT (by kernel_rfl) (Lq_nil ?_)
          intro w45 hB46
          replace hb := hb.trans (hB46.mono hs)
          replace hs := Nat.le_trans hs (hB46.size)
          replace o_x4 := obj_below o_x4 hB46
          replace o_cb17 := obj_below o_cb17 hB46
          replace o_cb21 := obj_below o_cb21 hB46
          replace o_x6 := obj_below o_x6 hB46
          replace p_l := p_l.below hB46
          replace p_val := p_val.below hB46
          replace r_7 := r_7.below hB46
          replace r_cb17_0 := r_cb17_0.below hB46
          refine I_all1 15 (by kernel_rfl) ?_
          refine I_op 15 rfl ?_ rfl
          refine L_call 21 [(.pointer (some ⟨cb17, 0, none⟩)), (Value.agg #[(.int .i32 x31.1), (.int .i32 x31.2)]), (.bool true)] (by kernel_rfl) (by kernel_rfl) (c_put_B cb17 v_cb17_0 am x31.1 x31.2 true w.heap.size _ hs o_cb17 g_cb17 r_cb17_0 (by first | exact i2.ok.rise | exact j2.ok.rise) (by omega) (by omega)) ?_
          rintro _ w48 ⟨q47, rfl, ho51, r_q47, dm49, hC50⟩
          replace hb := hC50.below hb hs (fun k e => e.elim (fun x => x ▸ g_cb17) (fun x => (World.ownsRow.lt r_cb17_0 k x).1))
          replace hs := Nat.le_trans hs hC50.size
          have n_o_x4 := obj_ch_mut o_x4 hC50 (obj_ne o_x4 o_cb17 (by simp)) (r_cb17_0.ne o_x4 (by simp))
          have n_o_cb21 := obj_ch_mut o_cb21 hC50 ne_cb21_cb17 (r_cb17_0.ne o_cb21 (by simp))
          have n_o_x6 := obj_ch_mut o_x6 hC50 (obj_ne o_x6 o_cb17 (by simp)) (r_cb17_0.ne o_x6 (by simp))
          have n_p_l := in_p_l.below hb
          have n_p_val := in_p_val.below hb
          have n_r_7 := r_7.ch_mut hC50 (r_7.ne o_cb17 (by simp)) (r_7.apart r_cb17_0 (by kernel_rfl))
          replace o_x4 := n_o_x4; clear n_o_x4
          replace o_cb21 := n_o_cb21; clear n_o_cb21
          replace o_x6 := n_o_x6; clear n_o_x6
          replace p_l := n_p_l; clear n_p_l
          replace p_val := n_p_val; clear n_p_val
          replace r_7 := n_r_7; clear n_r_7
          replace o_cb17 := ho51
          refine L_nil ?_
          refine ⟨rfl, ?_⟩
          refine I_all1 16 (by kernel_rfl) ?_
          refine I_op 16 rfl ?_ rfl
          refine L_cmp .i64 (putE am x31.1 x31.2) 0 ((putE am x31.1 x31.2) = 0) rfl (cmp_eq (putE am x31.1 x31.2) 0) (by kernel_rfl) (by kernel_rfl) ?_ ?_
          · intro h52
            replace h52 : (putE am x31.1 x31.2) = 0 := by omega
            refine L_nil ?_
            refine ⟨rfl, ?_⟩
            refine I_done (by kernel_rfl) ?_
            refine thenQ_normal (W_true (by kernel_rfl) (W_region (L_mv (L_mv (L_app el45 w.heap.size v_7 T ((i : Nat) : Int) hs r_7 (by omega) (by kernel_rfl) rfl rfl (by kernel_rfl) rfl (by kernel_rfl) (by kernel_rfl) ?_)))))
            intro v53 w54 hr55 hg56 how57
            replace hb := hb.grown hg56 hs (fun k hk => (World.ownsRow.lt r_7 k hk).1)
            replace hs := Nat.le_trans hs (hg56.size)
            have n_o_x4 := obj_grown o_x4 hg56 (r_7.ne o_x4 (by simp))
            have n_o_cb17 := obj_grown o_cb17 hg56 (r_7.ne o_cb17 (by simp))
            have n_o_cb21 := obj_grown o_cb21 hg56 (r_7.ne o_cb21 (by simp))
            have n_o_x6 := obj_grown o_x6 hg56 (r_7.ne o_x6 (by simp))
            have n_p_l := in_p_l.below hb
            have n_p_val := in_p_val.below hb
            have n_r_q47 := r_q47.grown hg56 (r_q47.apart r_7 (by kernel_rfl))
            replace o_x4 := n_o_x4; clear n_o_x4
            replace o_cb17 := n_o_cb17; clear n_o_cb17
            replace o_cb21 := n_o_cb21; clear n_o_cb21
            replace o_x6 := n_o_x6; clear n_o_x6
            replace p_l := n_p_l; clear n_p_l
            replace p_val := n_p_val; clear n_p_val
            replace r_q47 := n_r_q47; clear n_r_q47
            replace r_7 := hr55
            refine L_as (L_nil (blkQ_normal (thenQ_normal (W_region (L_mv (L_addN i 1 (by omega) (by kernel_rfl) (by kernel_rfl) (L_as (L_nil ?_))))))))
            refine thenQ_normal ⟨_, ?_, (i + 1), (putF eqB am x31.1 x31.2 true), (T ++ [((i : Nat) : Int)]), v53, q47, rfl, hds, by kernel_rfl, by kernel_rfl, by kernel_rfl, by kernel_rfl, by kernel_rfl, by kernel_rfl, by kernel_rfl, p_l, p_val, r_7, r_q47, o_x4, o_cb17, o_cb21, o_x6, hb, hs, ?_, ?_, ?_⟩
            · omega
            · omega
            · first | exact one_no i2 (by assumption) _ | exact one_ok i2 (by assumption) (by assumption) (valA_in2 (by assumption) (by assumption)) | exact one_ok i2 (by assumption) (by assumption) (valA_out (by omega))
            · first | omega | (simp only [List.length_append, List.length_cons, List.length_nil] <;> omega)
          · intro h58
            replace h58 : (putE am x31.1 x31.2) ≠ 0 := by omega
            refine L_nil ?_
            refine ⟨rfl, ?_⟩
            refine I_done (by kernel_rfl) ?_
            refine thenQ_normal (W_false (by kernel_rfl) (W_skip (blkQ_normal (thenQ_normal (W_region (L_mv (L_addN i 1 (by omega) (by kernel_rfl) (by kernel_rfl) (L_as (L_nil ?_)))))))))
            refine thenQ_normal ⟨_, ?_, (i + 1), (putF eqB am x31.1 x31.2 true), T, v_7, q47, rfl, hds, by kernel_rfl, by kernel_rfl, by kernel_rfl, by kernel_rfl, by kernel_rfl, by kernel_rfl, by kernel_rfl, p_l, p_val, r_7, r_q47, o_x4, o_cb17, o_cb21, o_x6, hb, hs, ?_, ?_, ?_⟩
            · omega
            · omega
            · first | exact one_no i2 (by assumption) _ | exact one_ok i2 (by assumption) (by assumption) (valA_in2 (by assumption) (by assumption)) | exact one_ok i2 (by assumption) (by assumption) (valA_out (by omega))
            · first | omega | (simp only [List.length_append, List.length_cons, List.length_nil] <;> omega)
        · intro h59
          refine Lq_pickT (by kernel_rfl) (Lq_nil ?_)
          intro w60 hB61
          replace hb := hb.trans (hB61.mono hs)
          replace hs := Nat.le_trans hs (hB61.size)
          replace o_x4 := obj_below o_x4 hB61
          replace o_cb17 := obj_below o_cb17 hB61
          replace o_cb21 := obj_below o_cb21 hB61
          replace o_x6 := obj_below o_x6 hB61
          replace p_l := p_l.below hB61
          replace p_val := p_val.below hB61
          replace r_7 := r_7.below hB61
          replace r_cb17_0 := r_cb17_0.below hB61
          refine I_all1 15 (by kernel_rfl) ?_
          refine I_op 15 rfl ?_ rfl
          refine L_call 21 [(.pointer (some ⟨cb17, 0, none⟩)), (Value.agg #[(.int .i32 x31.1), (.int .i32 x31.2)]), (.bool false)] (by kernel_rfl) (by kernel_rfl) (c_put_B cb17 v_cb17_0 am x31.1 x31.2 false w.heap.size _ hs o_cb17 g_cb17 r_cb17_0 (by first | exact i2.ok.rise | exact j2.ok.rise) (by omega) (by omega)) ?_
          rintro _ w63 ⟨q62, rfl, ho66, r_q62, dm64, hC65⟩
          replace hb := hC65.below hb hs (fun k e => e.elim (fun x => x ▸ g_cb17) (fun x => (World.ownsRow.lt r_cb17_0 k x).1))
          replace hs := Nat.le_trans hs hC65.size
          have n_o_x4 := obj_ch_mut o_x4 hC65 (obj_ne o_x4 o_cb17 (by simp)) (r_cb17_0.ne o_x4 (by simp))
          have n_o_cb21 := obj_ch_mut o_cb21 hC65 ne_cb21_cb17 (r_cb17_0.ne o_cb21 (by simp))
          have n_o_x6 := obj_ch_mut o_x6 hC65 (obj_ne o_x6 o_cb17 (by simp)) (r_cb17_0.ne o_x6 (by simp))
          have n_p_l := in_p_l.below hb
          have n_p_val := in_p_val.below hb
          have n_r_7 := r_7.ch_mut hC65 (r_7.ne o_cb17 (by simp)) (r_7.apart r_cb17_0 (by kernel_rfl))
          replace o_x4 := n_o_x4; clear n_o_x4
          replace o_cb21 := n_o_cb21; clear n_o_cb21
          replace o_x6 := n_o_x6; clear n_o_x6
          replace p_l := n_p_l; clear n_p_l
          replace p_val := n_p_val; clear n_p_val
          replace r_7 := n_r_7; clear n_r_7
          replace o_cb17 := ho66
          refine L_nil ?_
          refine ⟨rfl, ?_⟩
          refine I_all1 16 (by kernel_rfl) ?_
          refine I_op 16 rfl ?_ rfl
          refine L_cmp .i64 (putE am x31.1 x31.2) 0 ((putE am x31.1 x31.2) = 0) rfl (cmp_eq (putE am x31.1 x31.2) 0) (by kernel_rfl) (by kernel_rfl) ?_ ?_
          · intro h67
            replace h67 : (putE am x31.1 x31.2) = 0 := by omega
            refine L_nil ?_
            refine ⟨rfl, ?_⟩
            refine I_done (by kernel_rfl) ?_
            refine thenQ_normal (W_true (by kernel_rfl) (W_region (L_mv (L_mv (L_app el45 w.heap.size v_7 T ((i : Nat) : Int) hs r_7 (by omega) (by kernel_rfl) rfl rfl (by kernel_rfl) rfl (by kernel_rfl) (by kernel_rfl) ?_)))))
            intro v68 w69 hr70 hg71 how72
            replace hb := hb.grown hg71 hs (fun k hk => (World.ownsRow.lt r_7 k hk).1)
            replace hs := Nat.le_trans hs (hg71.size)
            have n_o_x4 := obj_grown o_x4 hg71 (r_7.ne o_x4 (by simp))
            have n_o_cb17 := obj_grown o_cb17 hg71 (r_7.ne o_cb17 (by simp))
            have n_o_cb21 := obj_grown o_cb21 hg71 (r_7.ne o_cb21 (by simp))
            have n_o_x6 := obj_grown o_x6 hg71 (r_7.ne o_x6 (by simp))
            have n_p_l := in_p_l.below hb
            have n_p_val := in_p_val.below hb
            have n_r_q62 := r_q62.grown hg71 (r_q62.apart r_7 (by kernel_rfl))
            replace o_x4 := n_o_x4; clear n_o_x4
            replace o_cb17 := n_o_cb17; clear n_o_cb17
            replace o_cb21 := n_o_cb21; clear n_o_cb21
            replace o_x6 := n_o_x6; clear n_o_x6
            replace p_l := n_p_l; clear n_p_l
            replace p_val := n_p_val; clear n_p_val
            replace r_q62 := n_r_q62; clear n_r_q62
            replace r_7 := hr70
            refine L_as (L_nil (blkQ_normal (thenQ_normal (W_region (L_mv (L_addN i 1 (by omega) (by kernel_rfl) (by kernel_rfl) (L_as (L_nil ?_))))))))
            refine thenQ_normal ⟨_, ?_, (i + 1), (putF eqB am x31.1 x31.2 false), (T ++ [((i : Nat) : Int)]), v68, q62, rfl, hds, by kernel_rfl, by kernel_rfl, by kernel_rfl, by kernel_rfl, by kernel_rfl, by kernel_rfl, by kernel_rfl, p_l, p_val, r_7, r_q62, o_x4, o_cb17, o_cb21, o_x6, hb, hs, ?_, ?_, ?_⟩
            · omega
            · omega
            · first | exact one_no i2 (by assumption) _ | exact one_ok i2 (by assumption) (by assumption) (valA_in2 (by assumption) (by assumption)) | exact one_ok i2 (by assumption) (by assumption) (valA_out (by omega))
            · first | omega | (simp only [List.length_append, List.length_cons, List.length_nil] <;> omega)
          · intro h73
            replace h73 : (putE am x31.1 x31.2) ≠ 0 := by omega
            refine L_nil ?_
            refine ⟨rfl, ?_⟩
            refine I_done (by kernel_rfl) ?_
            refine thenQ_normal (W_false (by kernel_rfl) (W_skip (blkQ_normal (thenQ_normal (W_region (L_mv (L_addN i 1 (by omega) (by kernel_rfl) (by kernel_rfl) (L_as (L_nil ?_)))))))))
            refine thenQ_normal ⟨_, ?_, (i + 1), (putF eqB am x31.1 x31.2 false), T, v_7, q62, rfl, hds, by kernel_rfl, by kernel_rfl, by kernel_rfl, by kernel_rfl, by kernel_rfl, by kernel_rfl, by kernel_rfl, p_l, p_val, r_7, r_q62, o_x4, o_cb17, o_cb21, o_x6, hb, hs, ?_, ?_, ?_⟩
            · omega
            · omega
            · first | exact one_no i2 (by assumption) _ | exact one_ok i2 (by assumption) (by assumption) (valA_in2 (by assumption) (by assumption)) | exact one_ok i2 (by assumption) (by assumption) (valA_out (by omega))
            · first | omega | (simp only [List.length_append, List.length_cons, List.length_nil] <;> omega)
      · intro h74
        replace h74 : (val).length ≤ i := by omega
        refine Lq_mv (Lq_skip (by kernel_rfl) (Lq_skip (by kernel_rfl) (Lq_skip (by kernel_rfl) (Lq_skip (by kernel_rfl) (Lq_pickF (by kernel_rfl) (Lq_nil ?_))))))
        intro w75 hB76
        replace hb := hb.trans (hB76.mono hs)
        replace hs := Nat.le_trans hs (hB76.size)
        replace o_x4 := obj_below o_x4 hB76
        replace o_cb17 := obj_below o_cb17 hB76
        replace o_cb21 := obj_below o_cb21 hB76
        replace o_x6 := obj_below o_x6 hB76
        replace p_l := p_l.below hB76
        replace p_val := p_val.below hB76
        replace r_7 := r_7.below hB76
        replace r_cb17_0 := r_cb17_0.below hB76
        refine I_all1 15 (by kernel_rfl) ?_
        refine I_op 15 rfl ?_ rfl
        refine L_call 21 [(.pointer (some ⟨cb17, 0, none⟩)), (Value.agg #[(.int .i32 x31.1), (.int .i32 x31.2)]), (.bool false)] (by kernel_rfl) (by kernel_rfl) (c_put_B cb17 v_cb17_0 am x31.1 x31.2 false w.heap.size _ hs o_cb17 g_cb17 r_cb17_0 (by first | exact i2.ok.rise | exact j2.ok.rise) (by omega) (by omega)) ?_
        rintro _ w78 ⟨q77, rfl, ho81, r_q77, dm79, hC80⟩
        replace hb := hC80.below hb hs (fun k e => e.elim (fun x => x ▸ g_cb17) (fun x => (World.ownsRow.lt r_cb17_0 k x).1))
        replace hs := Nat.le_trans hs hC80.size
        have n_o_x4 := obj_ch_mut o_x4 hC80 (obj_ne o_x4 o_cb17 (by simp)) (r_cb17_0.ne o_x4 (by simp))
        have n_o_cb21 := obj_ch_mut o_cb21 hC80 ne_cb21_cb17 (r_cb17_0.ne o_cb21 (by simp))
        have n_o_x6 := obj_ch_mut o_x6 hC80 (obj_ne o_x6 o_cb17 (by simp)) (r_cb17_0.ne o_x6 (by simp))
        have n_p_l := in_p_l.below hb
        have n_p_val := in_p_val.below hb
        have n_r_7 := r_7.ch_mut hC80 (r_7.ne o_cb17 (by simp)) (r_7.apart r_cb17_0 (by kernel_rfl))
        replace o_x4 := n_o_x4; clear n_o_x4
        replace o_cb21 := n_o_cb21; clear n_o_cb21
        replace o_x6 := n_o_x6; clear n_o_x6
        replace p_l := n_p_l; clear n_p_l
        replace p_val := n_p_val; clear n_p_val
        replace r_7 := n_r_7; clear n_r_7
        replace o_cb17 := ho81
        refine L_nil ?_
        refine ⟨rfl, ?_⟩
        refine I_all1 16 (by kernel_rfl) ?_
        refine I_op 16 rfl ?_ rfl
        refine L_cmp .i64 (putE am x31.1 x31.2) 0 ((putE am x31.1 x31.2) = 0) rfl (cmp_eq (putE am x31.1 x31.2) 0) (by kernel_rfl) (by kernel_rfl) ?_ ?_
        · intro h82
          replace h82 : (putE am x31.1 x31.2) = 0 := by omega
          refine L_nil ?_
          refine ⟨rfl, ?_⟩
          refine I_done (by kernel_rfl) ?_
          refine thenQ_normal (W_true (by kernel_rfl) (W_region (L_mv (L_mv (L_app el45 w.heap.size v_7 T ((i : Nat) : Int) hs r_7 (by omega) (by kernel_rfl) rfl rfl (by kernel_rfl) rfl (by kernel_rfl) (by kernel_rfl) ?_)))))
          intro v83 w84 hr85 hg86 how87
          replace hb := hb.grown hg86 hs (fun k hk => (World.ownsRow.lt r_7 k hk).1)
          replace hs := Nat.le_trans hs (hg86.size)
          have n_o_x4 := obj_grown o_x4 hg86 (r_7.ne o_x4 (by simp))
          have n_o_cb17 := obj_grown o_cb17 hg86 (r_7.ne o_cb17 (by simp))
          have n_o_cb21 := obj_grown o_cb21 hg86 (r_7.ne o_cb21 (by simp))
          have n_o_x6 := obj_grown o_x6 hg86 (r_7.ne o_x6 (by simp))
          have n_p_l := in_p_l.below hb
          have n_p_val := in_p_val.below hb
          have n_r_q77 := r_q77.grown hg86 (r_q77.apart r_7 (by kernel_rfl))
          replace o_x4 := n_o_x4; clear n_o_x4
          replace o_cb17 := n_o_cb17; clear n_o_cb17
          replace o_cb21 := n_o_cb21; clear n_o_cb21
          replace o_x6 := n_o_x6; clear n_o_x6
          replace p_l := n_p_l; clear n_p_l
          replace p_val := n_p_val; clear n_p_val
          replace r_q77 := n_r_q77; clear n_r_q77
          replace r_7 := hr85
          refine L_as (L_nil (blkQ_normal (thenQ_normal (W_region (L_mv (L_addN i 1 (by omega) (by kernel_rfl) (by kernel_rfl) (L_as (L_nil ?_))))))))
          refine thenQ_normal ⟨_, ?_, (i + 1), (putF eqB am x31.1 x31.2 false), (T ++ [((i : Nat) : Int)]), v83, q77, rfl, hds, by kernel_rfl, by kernel_rfl, by kernel_rfl, by kernel_rfl, by kernel_rfl, by kernel_rfl, by kernel_rfl, p_l, p_val, r_7, r_q77, o_x4, o_cb17, o_cb21, o_x6, hb, hs, ?_, ?_, ?_⟩
          · omega
          · omega
          · first | exact one_no i2 (by assumption) _ | exact one_ok i2 (by assumption) (by assumption) (valA_in2 (by assumption) (by assumption)) | exact one_ok i2 (by assumption) (by assumption) (valA_out (by omega))
          · first | omega | (simp only [List.length_append, List.length_cons, List.length_nil] <;> omega)
        · intro h88
          replace h88 : (putE am x31.1 x31.2) ≠ 0 := by omega
          refine L_nil ?_
          refine ⟨rfl, ?_⟩
          refine I_done (by kernel_rfl) ?_
          refine thenQ_normal (W_false (by kernel_rfl) (W_skip (blkQ_normal (thenQ_normal (W_region (L_mv (L_addN i 1 (by omega) (by kernel_rfl) (by kernel_rfl) (L_as (L_nil ?_)))))))))
          refine thenQ_normal ⟨_, ?_, (i + 1), (putF eqB am x31.1 x31.2 false), T, v_7, q77, rfl, hds, by kernel_rfl, by kernel_rfl, by kernel_rfl, by kernel_rfl, by kernel_rfl, by kernel_rfl, by kernel_rfl, p_l, p_val, r_7, r_q77, o_x4, o_cb17, o_cb21, o_x6, hb, hs, ?_, ?_, ?_⟩
          · omega
          · omega
          · first | exact one_no i2 (by assumption) _ | exact one_ok i2 (by assumption) (by assumption) (valA_in2 (by assumption) (by assumption)) | exact one_ok i2 (by assumption) (by assumption) (valA_out (by omega))
          · first | omega | (simp only [List.length_append, List.length_cons, List.length_nil] <;> omega)
    · intro h89
      replace h89 : (l).length ≤ i := by omega
      refine L_nil (thenQ_normal (W_false (by kernel_rfl) (W_exit (thenQ_exit (thenQ_exit (blkQ_exit (thenQ_normal (W_seq (W_seq (W_region (L_mv (L_len 45 3 (T).length v_7 rfl Try.underlying45 (r_7.rd).len (by kernel_rfl) (L_arith (((T).length : Nat) : Int) 1 ((((T).length : Nat) : Int) - 1) rfl (by kernel_rfl) (by kernel_rfl) (wrap_i64 _ (by simp only [arithZ]; omega) (by simp only [arithZ]; omega)) (L_as (L_nil (thenQ_normal (W_block ?_)))))))))))))))))
      refine W_loop (fun m s0 w0 => ∃ (z : Int) (bm : List SpB) (v_cb21_0 : Value), (m = (z + 1).toNat) ∧ (s0.ds = []) ∧ (s0.f 0 = v_l) ∧ (s0.f 1 = v_val) ∧ (s0.f 4 = (.pointer (some ⟨b1, 0, none⟩))) ∧ (s0.f 5 = (.pointer (some ⟨cb17, 0, none⟩))) ∧ (s0.f 6 = (.pointer (some ⟨b22, 0, none⟩))) ∧ (s0.f 7 = v_7) ∧ (s0.f 9 = (.int .i64 z)) ∧ (Rd w0 encRg v_l l) ∧ (Rd w0 encBool v_val val) ∧ (Row w0 w.heap.size 3 1 encInt v_7 T) ∧ (Row w0 w.heap.size 127 3 encSpanB v_cb17_0 am) ∧ (Row w0 w.heap.size 127 3 encSpanB v_cb21_0 bm) ∧ (w0.heap[b1]? = some (.cells [(.bool false)].toArray 4 (0, 0))) ∧ (w0.heap[cb17]? = some (.cells [v_cb17_0, (.bool true)].toArray 123 (0, 0))) ∧ (w0.heap[cb21]? = some (.cells [v_cb21_0, (.bool true)].toArray 123 (0, 0))) ∧ (w0.heap[b22]? = some (.cells [(.pointer (some ⟨cb21, 0, none⟩))].toArray 54 (0, 0))) ∧ (Value.ownBlock v_cb17_0 = none ∨ Value.ownBlock v_cb17_0 ≠ Value.ownBlock v_cb21_0) ∧ (Below w.heap.size w w0) ∧ (w.heap.size ≤ w0.heap.size) ∧ (-1 ≤ z ∧ z < T.length) ∧ (TwoI l val T (z + 1).toNat bm)) _ ⟨((((T).length : Nat) : Int) - 1), [], (.slice none 0 0), rfl, hds, by kernel_rfl, by kernel_rfl, by kernel_rfl, by kernel_rfl, by kernel_rfl, by kernel_rfl, by kernel_rfl, p_l, p_val, r_7, r_cb17_0, Row.nil _ _ _ _ _, o_x4, o_cb17, o_cb21, o_x6, ap_nil _, hb, hs, by omega, (by rw [show ((T.length : Int) - 1 + 1).toNat = T.length by omega]; exact two_zero)⟩ ?_
      rintro m90 s91 w92 ⟨z, bm, v_cb21_0, hm, hds, f_0, f_1, f_4, f_5, f_6, f_7, f_9, p_l, p_val, r_7, r_cb17_0, r_cb21_0, o_x4, o_cb17, o_cb21, o_x6, ap_r_cb17_0_r_cb21_0, hb, hs, j1, j2⟩
      refine W_set 0 _ f_0 (W_set 1 _ f_1 (W_set 4 _ f_4 (W_set 5 _ f_5 (W_set 6 _ f_6 (W_set 7 _ f_7 (W_set 9 _ f_9 ?_))))))
      clear f_0 f_1 f_4 f_5 f_6 f_7 f_9
      have ap_r_cb21_0_r_cb17_0 := ap_comm ap_r_cb17_0_r_cb21_0
      have hbl := j2.ok.rise.len
      refine W_seq (W_seq (W_region (L_mv (L_cmp .i64 z 0 (0 ≤ z) rfl (cmp_ge z 0) (by kernel_rfl) (by kernel_rfl) ?_ ?_))))
      · intro h93
        replace h93 : 0 ≤ z := by omega
        refine L_nil (thenQ_normal (W_true (by kernel_rfl) (W_skip (thenQ_normal (W_seq (W_block (W_seq (W_region (L_mv (L_mv ?_))))))))))
        have hz := get_some T z.toNat (by omega); obtain ⟨x94, hx95⟩ := hz
        have hz := (r_7.rd).at (k := 1) (fun _ => rfl) hx95
        obtain ⟨g96, off97, hl98, hc99⟩ := hz
        have hkm_x94 := one_may i2 hx95
        refine L_ixaddrZ (k := .i64) v_7 z z.toNat _ g96 off97 (by omega) el45 hl98 (by omega) (by kernel_rfl) (by kernel_rfl) (L_load g96 (off97 + z.toNat * 1) (.int .i64 x94) (by kernel_rfl) (by kernel_rfl) (hc99 0 _ rfl) (L_as (L_nil (thenQ_normal (W_seq (W_pre 15 17 2 (by kernel_rfl) (by kernel_rfl) (by kernel_rfl) (by kernel_rfl) (by kernel_rfl) (by kernel_rfl) (by kernel_rfl) (Lq_load b22 0 (.pointer (some ⟨cb21, 0, none⟩)) (by kernel_rfl) (fun _ => by kernel_rfl) (cell_obj o_x6 rfl) (Lq_mv (Lq_mv ?_)))))))))
        have hz := get_some l x94.toNat (by omega); obtain ⟨x100, hx101⟩ := hz
        have hz := (p_l).at (k := 2) (fun _ => rfl) hx101
        obtain ⟨g102, off103, hl104, hc105⟩ := hz
        have hw_x100 := hlw _ (List.mem_of_getElem? hx101)
        refine Lq_ixaddrZ (k := .i64) v_l x94 x94.toNat _ g102 off103 (by omega) el22 hl104 (by omega) (by kernel_rfl) (by kernel_rfl) (Lq_loadA g102 (off103 + x94.toNat * 2) [(.int .i32 x100.1), (.int .i32 x100.2)] (by kernel_rfl) (fun _ => by kernel_rfl) (fun _ => by kernel_rfl) hc105 (Lq_mv (Lq_mv (Lq_len 46 4 (val).length v_val rfl Try.underlying46 (p_val).len (by kernel_rfl) (Lq_cmp .i64 x94 (((val).length : Nat) : Int) (x94 < (((val).length : Nat) : Int)) rfl (cmp_lt x94 (((val).length : Nat) : Int)) (by kernel_rfl) (by kernel_rfl) ?_ ?_)))))
        · intro h106
          replace h106 : x94 < (((val).length : Nat) : Int) := by omega
          refine Lq_mv (Lq_want (by kernel_rfl) (Lq_mv (Lq_want (by kernel_rfl) (Lq_mv (Lq_want (by kernel_rfl) ?_)))))
          have hz := get_some val x94.toNat (by omega); obtain ⟨x107, hx108⟩ := hz
          have hz := (p_val).at (k := 1) (fun _ => rfl) hx108
          obtain ⟨g109, off110, hl111, hc112⟩ := hz
          refine Lq_ixaddrZ (k := .i64) v_val x94 x94.toNat _ g109 off110 (by omega) el46 hl111 (by omega) (by kernel_rfl) (by kernel_rfl) (Lq_want (by kernel_rfl) (Lq_load g109 (off110 + x94.toNat * 1) (.bool x107) (by kernel_rfl) (fun _ => by kernel_rfl) (hc112 0 _ rfl) (Lq_put_split x107 ?_ ?_)))
          · intro h113
            refine Lq_pickT (by kernel_rfl) (Lq_nil ?_)
            intro w114 hB115
            replace hb := hb.trans (hB115.mono hs)
            replace hs := Nat.le_trans hs (hB115.size)
            replace o_x4 := obj_below o_x4 hB115
            replace o_cb17 := obj_below o_cb17 hB115
            replace o_cb21 := obj_below o_cb21 hB115
            replace o_x6 := obj_below o_x6 hB115
            replace p_l := p_l.below hB115
            replace p_val := p_val.below hB115
            replace r_7 := r_7.below hB115
            replace r_cb17_0 := r_cb17_0.below hB115
            replace r_cb21_0 := r_cb21_0.below hB115
            refine I_all1 15 (by kernel_rfl) ?_
            refine I_op 15 rfl ?_ rfl
            refine L_call 22 [(.pointer (some ⟨cb21, 0, none⟩)), (Value.agg #[(.int .i32 x100.1), (.int .i32 x100.2)]), (.bool true)] (by kernel_rfl) (by kernel_rfl) (c_lay_B cb21 v_cb21_0 bm x100.1 x100.2 true w.heap.size _ hs o_cb21 g_cb21 r_cb21_0 (by first | exact i2.ok.rise | exact j2.ok.rise) (by omega) (by omega)) ?_
            rintro _ w117 ⟨q116, rfl, ho120, r_q116, dm118, hC119⟩
            replace hb := hC119.below hb hs (fun k e => e.elim (fun x => x ▸ g_cb21) (fun x => (World.ownsRow.lt r_cb21_0 k x).1))
            replace hs := Nat.le_trans hs hC119.size
            have n_o_x4 := obj_ch_mut o_x4 hC119 (obj_ne o_x4 o_cb21 (by simp)) (r_cb21_0.ne o_x4 (by simp))
            have n_o_cb17 := obj_ch_mut o_cb17 hC119 ne_cb17_cb21 (r_cb21_0.ne o_cb17 (by simp))
            have n_o_x6 := obj_ch_mut o_x6 hC119 (obj_ne o_x6 o_cb21 (by simp)) (r_cb21_0.ne o_x6 (by simp))
            have n_p_l := in_p_l.below hb
            have n_p_val := in_p_val.below hb
            have n_r_7 := r_7.ch_mut hC119 (r_7.ne o_cb21 (by simp)) (r_7.apart r_cb21_0 (by kernel_rfl))
            have ap_r_cb17_0_r_q116 := ap_mut r_cb17_0 dm118 (r_cb17_0.ne o_cb21 (by simp)) ap_r_cb17_0_r_cb21_0; have ap_r_q116_r_cb17_0 := ap_comm ap_r_cb17_0_r_q116
            have n_r_cb17_0 := r_cb17_0.ch_mut hC119 (r_cb17_0.ne o_cb21 (by simp)) ap_r_cb17_0_r_cb21_0
            replace o_x4 := n_o_x4; clear n_o_x4
            replace o_cb17 := n_o_cb17; clear n_o_cb17
            replace o_x6 := n_o_x6; clear n_o_x6
            replace p_l := n_p_l; clear n_p_l
            replace p_val := n_p_val; clear n_p_val
            replace r_7 := n_r_7; clear n_r_7
            replace r_cb17_0 := n_r_cb17_0; clear n_r_cb17_0
            replace o_cb21 := ho120
            refine L_nil ?_
            refine ⟨rfl, ?_⟩
            refine I_all1 16 (by kernel_rfl) ?_
            refine I_op 16 rfl ?_ rfl
            refine L_cmp .i64 (layE x100.1 x100.2) 0 ((layE x100.1 x100.2) ≠ 0) rfl (cmp_ne (layE x100.1 x100.2) 0) (by kernel_rfl) (by kernel_rfl) ?_ ?_
            · intro h121
              replace h121 : (layE x100.1 x100.2) ≠ 0 := by omega
              exfalso; exact h121 (layE_ok (one_mayG i2 (by assumption) rfl (by assumption)))
            · intro h122
              replace h122 : (layE x100.1 x100.2) = 0 := by omega
              refine L_nil ?_
              refine ⟨rfl, ?_⟩
              refine I_done (by kernel_rfl) ?_
              refine thenQ_normal (W_false (by kernel_rfl) (W_skip (blkQ_normal (thenQ_normal (W_region (L_mv (L_arith z 1 (z - 1) rfl (by kernel_rfl) (by kernel_rfl) (wrap_i64 _ (by simp only [arithZ]; omega) (by simp only [arithZ]; omega)) (L_as (L_nil ?_)))))))))
              refine thenQ_normal ⟨_, ?_, (z - 1), (layF eqB bm x100.1 x100.2 true), q116, rfl, hds, by kernel_rfl, by kernel_rfl, by kernel_rfl, by kernel_rfl, by kernel_rfl, by kernel_rfl, by kernel_rfl, p_l, p_val, r_7, r_cb17_0, r_q116, o_x4, o_cb17, o_cb21, o_x6, ap_r_cb17_0_r_q116, hb, hs, ?_, ?_⟩
              · omega
              · omega
              · rw [show (z - 1 + 1).toNat = z.toNat by omega]; first | exact two_step i2 (by rw [show z.toNat + 1 = (z + 1).toNat by omega]; exact j2) (by assumption) rfl (by assumption) (valA_in2' rfl (by assumption) (by assumption)) | exact two_step i2 (by rw [show z.toNat + 1 = (z + 1).toNat by omega]; exact j2) (by assumption) rfl (by assumption) (valA_out' (by omega))
          · intro h123
            refine Lq_pickT (by kernel_rfl) (Lq_nil ?_)
            intro w124 hB125
            replace hb := hb.trans (hB125.mono hs)
            replace hs := Nat.le_trans hs (hB125.size)
            replace o_x4 := obj_below o_x4 hB125
            replace o_cb17 := obj_below o_cb17 hB125
            replace o_cb21 := obj_below o_cb21 hB125
            replace o_x6 := obj_below o_x6 hB125
            replace p_l := p_l.below hB125
            replace p_val := p_val.below hB125
            replace r_7 := r_7.below hB125
            replace r_cb17_0 := r_cb17_0.below hB125
            replace r_cb21_0 := r_cb21_0.below hB125
            refine I_all1 15 (by kernel_rfl) ?_
            refine I_op 15 rfl ?_ rfl
            refine L_call 22 [(.pointer (some ⟨cb21, 0, none⟩)), (Value.agg #[(.int .i32 x100.1), (.int .i32 x100.2)]), (.bool false)] (by kernel_rfl) (by kernel_rfl) (c_lay_B cb21 v_cb21_0 bm x100.1 x100.2 false w.heap.size _ hs o_cb21 g_cb21 r_cb21_0 (by first | exact i2.ok.rise | exact j2.ok.rise) (by omega) (by omega)) ?_
            rintro _ w127 ⟨q126, rfl, ho130, r_q126, dm128, hC129⟩
            replace hb := hC129.below hb hs (fun k e => e.elim (fun x => x ▸ g_cb21) (fun x => (World.ownsRow.lt r_cb21_0 k x).1))
            replace hs := Nat.le_trans hs hC129.size
            have n_o_x4 := obj_ch_mut o_x4 hC129 (obj_ne o_x4 o_cb21 (by simp)) (r_cb21_0.ne o_x4 (by simp))
            have n_o_cb17 := obj_ch_mut o_cb17 hC129 ne_cb17_cb21 (r_cb21_0.ne o_cb17 (by simp))
            have n_o_x6 := obj_ch_mut o_x6 hC129 (obj_ne o_x6 o_cb21 (by simp)) (r_cb21_0.ne o_x6 (by simp))
            have n_p_l := in_p_l.below hb
            have n_p_val := in_p_val.below hb
            have n_r_7 := r_7.ch_mut hC129 (r_7.ne o_cb21 (by simp)) (r_7.apart r_cb21_0 (by kernel_rfl))
            have ap_r_cb17_0_r_q126 := ap_mut r_cb17_0 dm128 (r_cb17_0.ne o_cb21 (by simp)) ap_r_cb17_0_r_cb21_0; have ap_r_q126_r_cb17_0 := ap_comm ap_r_cb17_0_r_q126
            have n_r_cb17_0 := r_cb17_0.ch_mut hC129 (r_cb17_0.ne o_cb21 (by simp)) ap_r_cb17_0_r_cb21_0
            replace o_x4 := n_o_x4; clear n_o_x4
            replace o_cb17 := n_o_cb17; clear n_o_cb17
            replace o_x6 := n_o_x6; clear n_o_x6
            replace p_l := n_p_l; clear n_p_l
            replace p_val := n_p_val; clear n_p_val
            replace r_7 := n_r_7; clear n_r_7
            replace r_cb17_0 := n_r_cb17_0; clear n_r_cb17_0
            replace o_cb21 := ho130
            refine L_nil ?_
            refine ⟨rfl, ?_⟩
            refine I_all1 16 (by kernel_rfl) ?_
            refine I_op 16 rfl ?_ rfl
            refine L_cmp .i64 (layE x100.1 x100.2) 0 ((layE x100.1 x100.2) ≠ 0) rfl (cmp_ne (layE x100.1 x100.2) 0) (by kernel_rfl) (by kernel_rfl) ?_ ?_
            · intro h131
              replace h131 : (layE x100.1 x100.2) ≠ 0 := by omega
              exfalso; exact h131 (layE_ok (one_mayG i2 (by assumption) rfl (by assumption)))
            · intro h132
              replace h132 : (layE x100.1 x100.2) = 0 := by omega
              refine L_nil ?_
              refine ⟨rfl, ?_⟩
              refine I_done (by kernel_rfl) ?_
              refine thenQ_normal (W_false (by kernel_rfl) (W_skip (blkQ_normal (thenQ_normal (W_region (L_mv (L_arith z 1 (z - 1) rfl (by kernel_rfl) (by kernel_rfl) (wrap_i64 _ (by simp only [arithZ]; omega) (by simp only [arithZ]; omega)) (L_as (L_nil ?_)))))))))
              refine thenQ_normal ⟨_, ?_, (z - 1), (layF eqB bm x100.1 x100.2 false), q126, rfl, hds, by kernel_rfl, by kernel_rfl, by kernel_rfl, by kernel_rfl, by kernel_rfl, by kernel_rfl, by kernel_rfl, p_l, p_val, r_7, r_cb17_0, r_q126, o_x4, o_cb17, o_cb21, o_x6, ap_r_cb17_0_r_q126, hb, hs, ?_, ?_⟩
              · omega
              · omega
              · rw [show (z - 1 + 1).toNat = z.toNat by omega]; first | exact two_step i2 (by rw [show z.toNat + 1 = (z + 1).toNat by omega]; exact j2) (by assumption) rfl (by assumption) (valA_in2' rfl (by assumption) (by assumption)) | exact two_step i2 (by rw [show z.toNat + 1 = (z + 1).toNat by omega]; exact j2) (by assumption) rfl (by assumption) (valA_out' (by omega))
        · intro h133
          replace h133 : (((val).length : Nat) : Int) ≤ x94 := by omega
          refine Lq_mv (Lq_skip (by kernel_rfl) (Lq_skip (by kernel_rfl) (Lq_skip (by kernel_rfl) (Lq_skip (by kernel_rfl) (Lq_pickF (by kernel_rfl) (Lq_nil ?_))))))
          intro w134 hB135
          replace hb := hb.trans (hB135.mono hs)
          replace hs := Nat.le_trans hs (hB135.size)
          replace o_x4 := obj_below o_x4 hB135
          replace o_cb17 := obj_below o_cb17 hB135
          replace o_cb21 := obj_below o_cb21 hB135
          replace o_x6 := obj_below o_x6 hB135
          replace p_l := p_l.below hB135
          replace p_val := p_val.below hB135
          replace r_7 := r_7.below hB135
          replace r_cb17_0 := r_cb17_0.below hB135
          replace r_cb21_0 := r_cb21_0.below hB135
          refine I_all1 15 (by kernel_rfl) ?_
          refine I_op 15 rfl ?_ rfl
          refine L_call 22 [(.pointer (some ⟨cb21, 0, none⟩)), (Value.agg #[(.int .i32 x100.1), (.int .i32 x100.2)]), (.bool false)] (by kernel_rfl) (by kernel_rfl) (c_lay_B cb21 v_cb21_0 bm x100.1 x100.2 false w.heap.size _ hs o_cb21 g_cb21 r_cb21_0 (by first | exact i2.ok.rise | exact j2.ok.rise) (by omega) (by omega)) ?_
          rintro _ w137 ⟨q136, rfl, ho140, r_q136, dm138, hC139⟩
          replace hb := hC139.below hb hs (fun k e => e.elim (fun x => x ▸ g_cb21) (fun x => (World.ownsRow.lt r_cb21_0 k x).1))
          replace hs := Nat.le_trans hs hC139.size
          have n_o_x4 := obj_ch_mut o_x4 hC139 (obj_ne o_x4 o_cb21 (by simp)) (r_cb21_0.ne o_x4 (by simp))
          have n_o_cb17 := obj_ch_mut o_cb17 hC139 ne_cb17_cb21 (r_cb21_0.ne o_cb17 (by simp))
          have n_o_x6 := obj_ch_mut o_x6 hC139 (obj_ne o_x6 o_cb21 (by simp)) (r_cb21_0.ne o_x6 (by simp))
          have n_p_l := in_p_l.below hb
          have n_p_val := in_p_val.below hb
          have n_r_7 := r_7.ch_mut hC139 (r_7.ne o_cb21 (by simp)) (r_7.apart r_cb21_0 (by kernel_rfl))
          have ap_r_cb17_0_r_q136 := ap_mut r_cb17_0 dm138 (r_cb17_0.ne o_cb21 (by simp)) ap_r_cb17_0_r_cb21_0; have ap_r_q136_r_cb17_0 := ap_comm ap_r_cb17_0_r_q136
          have n_r_cb17_0 := r_cb17_0.ch_mut hC139 (r_cb17_0.ne o_cb21 (by simp)) ap_r_cb17_0_r_cb21_0
          replace o_x4 := n_o_x4; clear n_o_x4
          replace o_cb17 := n_o_cb17; clear n_o_cb17
          replace o_x6 := n_o_x6; clear n_o_x6
          replace p_l := n_p_l; clear n_p_l
          replace p_val := n_p_val; clear n_p_val
          replace r_7 := n_r_7; clear n_r_7
          replace r_cb17_0 := n_r_cb17_0; clear n_r_cb17_0
          replace o_cb21 := ho140
          refine L_nil ?_
          refine ⟨rfl, ?_⟩
          refine I_all1 16 (by kernel_rfl) ?_
          refine I_op 16 rfl ?_ rfl
          refine L_cmp .i64 (layE x100.1 x100.2) 0 ((layE x100.1 x100.2) ≠ 0) rfl (cmp_ne (layE x100.1 x100.2) 0) (by kernel_rfl) (by kernel_rfl) ?_ ?_
          · intro h141
            replace h141 : (layE x100.1 x100.2) ≠ 0 := by omega
            exfalso; exact h141 (layE_ok (one_mayG i2 (by assumption) rfl (by assumption)))
          · intro h142
            replace h142 : (layE x100.1 x100.2) = 0 := by omega
            refine L_nil ?_
            refine ⟨rfl, ?_⟩
            refine I_done (by kernel_rfl) ?_
            refine thenQ_normal (W_false (by kernel_rfl) (W_skip (blkQ_normal (thenQ_normal (W_region (L_mv (L_arith z 1 (z - 1) rfl (by kernel_rfl) (by kernel_rfl) (wrap_i64 _ (by simp only [arithZ]; omega) (by simp only [arithZ]; omega)) (L_as (L_nil ?_)))))))))
            refine thenQ_normal ⟨_, ?_, (z - 1), (layF eqB bm x100.1 x100.2 false), q136, rfl, hds, by kernel_rfl, by kernel_rfl, by kernel_rfl, by kernel_rfl, by kernel_rfl, by kernel_rfl, by kernel_rfl, p_l, p_val, r_7, r_cb17_0, r_q136, o_x4, o_cb17, o_cb21, o_x6, ap_r_cb17_0_r_q136, hb, hs, ?_, ?_⟩
            · omega
            · omega
            · rw [show (z - 1 + 1).toNat = z.toNat by omega]; first | exact two_step i2 (by rw [show z.toNat + 1 = (z + 1).toNat by omega]; exact j2) (by assumption) rfl (by assumption) (valA_in2' rfl (by assumption) (by assumption)) | exact two_step i2 (by rw [show z.toNat + 1 = (z + 1).toNat by omega]; exact j2) (by assumption) rfl (by assumption) (valA_out' (by omega))
      · intro h143
        replace h143 : z < 0 := by omega
        refine L_nil (thenQ_normal (W_false (by kernel_rfl) (W_exit (thenQ_exit (thenQ_exit (blkQ_exit (thenQ_normal (W_seq (W_seq (W_quiet (by kernel_rfl) (by kernel_rfl) (Lq_mv (Lq_load b22 0 (.pointer (some ⟨cb21, 0, none⟩)) (by kernel_rfl) (fun _ => by kernel_rfl) (cell_obj o_x6 rfl) (Lq_call 23 [(.pointer (some ⟨cb17, 0, none⟩)), (.pointer (some ⟨cb21, 0, none⟩))] (.bool (decide (am = bm))) (fun _ _ => by kernel_rfl) (fun wq hbq => c_same_B cb17 v_cb17_0 am cb21 v_cb21_0 bm wq (obj_below o_cb17 hbq) (r_cb17_0.rd.below hbq) (obj_below o_cb21 hbq) (r_cb21_0.rd.below hbq) (by omega) (by omega)) (Lq_put_split (decide (am = bm)) ?_ ?_))))))))))))))
        · intro h144
          have hab := of_decide_eq_true h144
          refine Lq_not true (by kernel_rfl) (Lq_mv (Lq_want (by kernel_rfl) (Lq_mv (Lq_want (by kernel_rfl) (Lq_call 24 [(.pointer (some ⟨cb17, 0, none⟩))] (.int .i64 ((am.length : Nat) : Int)) (fun _ _ => by kernel_rfl) (fun wq hbq => c_len_B cb17 v_cb17_0 am wq (obj_below o_cb17 hbq) (r_cb17_0.rd.below hbq)) (Lq_want (by kernel_rfl) (Lq_load b22 0 (.pointer (some ⟨cb21, 0, none⟩)) (by kernel_rfl) (fun _ => by kernel_rfl) (cell_obj o_x6 rfl) (Lq_want (by kernel_rfl) (Lq_call 24 [(.pointer (some ⟨cb21, 0, none⟩))] (.int .i64 ((bm.length : Nat) : Int)) (fun _ _ => by kernel_rfl) (fun wq hbq => c_len_B cb21 v_cb21_0 bm wq (obj_below o_cb21 hbq) (r_cb21_0.rd.below hbq)) (Lq_want (by kernel_rfl) (Lq_cmp .i64 ((am.length : Nat) : Int) ((bm.length : Nat) : Int) (am.length ≠ bm.length) rfl (cmpN_ne am.length bm.length) (by kernel_rfl) (by kernel_rfl) ?_ ?_)))))))))))
          · intro h145
            replace h145 : am.length ≠ bm.length := by omega
            exfalso; exact h145 (by rw [hab])
          · intro h146
            replace h146 : am.length = bm.length := by omega
            refine Lq_pickF (by kernel_rfl) (Lq_mv (Lq_want (by kernel_rfl) (Lq_mv (Lq_want (by kernel_rfl) (Lq_call 25 [(.pointer (some ⟨cb17, 0, none⟩))] (.int .i64 (sizeG am)) (fun _ _ => by kernel_rfl) (fun wq hbq => c_size_B cb17 v_cb17_0 am wq (obj_below o_cb17 hbq) (r_cb17_0.rd.below hbq) (by first | exact i2.ok.rise | exact j2.ok.rise)) (Lq_want (by kernel_rfl) (Lq_load b22 0 (.pointer (some ⟨cb21, 0, none⟩)) (by kernel_rfl) (fun _ => by kernel_rfl) (cell_obj o_x6 rfl) (Lq_want (by kernel_rfl) (Lq_call 25 [(.pointer (some ⟨cb21, 0, none⟩))] (.int .i64 (sizeG bm)) (fun _ _ => by kernel_rfl) (fun wq hbq => c_size_B cb21 v_cb21_0 bm wq (obj_below o_cb21 hbq) (r_cb21_0.rd.below hbq) (by first | exact i2.ok.rise | exact j2.ok.rise)) (Lq_want (by kernel_rfl) (Lq_cmp .i64 (sizeG am) (sizeG bm) ((sizeG am) ≠ (sizeG bm)) rfl (cmp_ne (sizeG am) (sizeG bm)) (by kernel_rfl) (by kernel_rfl) ?_ ?_)))))))))))
            · intro h147
              replace h147 : (sizeG am) ≠ (sizeG bm) := by omega
              exfalso; exact h147 (by rw [hab])
            · intro h148
              replace h148 : (sizeG am) = (sizeG bm) := by omega
              refine Lq_pickF (by kernel_rfl) (Lq_nil ?_)
              intro w149 hB150
              replace hb := hb.trans (hB150.mono hs)
              replace hs := Nat.le_trans hs (hB150.size)
              replace o_x4 := obj_below o_x4 hB150
              replace o_cb17 := obj_below o_cb17 hB150
              replace o_cb21 := obj_below o_cb21 hB150
              replace o_x6 := obj_below o_x6 hB150
              replace p_l := p_l.below hB150
              replace p_val := p_val.below hB150
              replace r_7 := r_7.below hB150
              replace r_cb17_0 := r_cb17_0.below hB150
              replace r_cb21_0 := r_cb21_0.below hB150
              refine thenQ_normal (W_false (by kernel_rfl) (W_skip (thenQ_normal (W_seq (W_region (L_new (fun b => .pointer (some ⟨b, 0, none⟩)) (.cells [(.slice none 0 0)].toArray 22 (0, 0)) (by kernel_rfl) (by kernel_rfl) ?_))))))
              intro b151 w152 hN153
              have ne_x4_x11 : b1 ≠ b151 := by have := (obj_lt o_x4); have := hN153.num; omega
              have ne_x11_x4 := ne_x4_x11.symm
              have ne_cb17_x11 : cb17 ≠ b151 := by have := (obj_lt o_cb17); have := hN153.num; omega
              have ne_x11_cb17 := ne_cb17_x11.symm
              have ne_cb21_x11 : cb21 ≠ b151 := by have := (obj_lt o_cb21); have := hN153.num; omega
              have ne_x11_cb21 := ne_cb21_x11.symm
              have ne_x6_x11 : b22 ≠ b151 := by have := (obj_lt o_x6); have := hN153.num; omega
              have ne_x11_x6 := ne_x6_x11.symm
              have g_x11 : w.heap.size ≤ b151 := by rw [hN153.num]; exact hs
              replace hb := hb.trans (hN153.below.mono hs)
              replace hs := Nat.le_trans hs (hN153.below.size)
              replace o_x4 := obj_below o_x4 hN153.below
              replace o_cb17 := obj_below o_cb17 hN153.below
              replace o_cb21 := obj_below o_cb21 hN153.below
              replace o_x6 := obj_below o_x6 hN153.below
              replace p_l := p_l.below hN153.below
              replace p_val := p_val.below hN153.below
              replace r_7 := r_7.below hN153.below
              replace r_cb17_0 := r_cb17_0.below hN153.below
              replace r_cb21_0 := r_cb21_0.below hN153.below
              have o_x11 := hN153.here
              refine L_new (fun b => .pointer (some ⟨b, 0, none⟩)) (.cells [(.slice none 0 0)].toArray 22 (0, 0)) (by kernel_rfl) (by kernel_rfl) ?_
              intro b154 w155 hN156
              have ne_x4_x12 : b1 ≠ b154 := by have := (obj_lt o_x4); have := hN156.num; omega
              have ne_x12_x4 := ne_x4_x12.symm
              have ne_cb17_x12 : cb17 ≠ b154 := by have := (obj_lt o_cb17); have := hN156.num; omega
              have ne_x12_cb17 := ne_cb17_x12.symm
              have ne_cb21_x12 : cb21 ≠ b154 := by have := (obj_lt o_cb21); have := hN156.num; omega
              have ne_x12_cb21 := ne_cb21_x12.symm
              have ne_x6_x12 : b22 ≠ b154 := by have := (obj_lt o_x6); have := hN156.num; omega
              have ne_x12_x6 := ne_x6_x12.symm
              have ne_x11_x12 : b151 ≠ b154 := by have := (obj_lt o_x11); have := hN156.num; omega
              have ne_x12_x11 := ne_x11_x12.symm
              have g_x12 : w.heap.size ≤ b154 := by rw [hN156.num]; exact hs
              replace hb := hb.trans (hN156.below.mono hs)
              replace hs := Nat.le_trans hs (hN156.below.size)
              replace o_x4 := obj_below o_x4 hN156.below
              replace o_cb17 := obj_below o_cb17 hN156.below
              replace o_cb21 := obj_below o_cb21 hN156.below
              replace o_x6 := obj_below o_x6 hN156.below
              replace o_x11 := obj_below o_x11 hN156.below
              replace p_l := p_l.below hN156.below
              replace p_val := p_val.below hN156.below
              replace r_7 := r_7.below hN156.below
              replace r_cb17_0 := r_cb17_0.below hN156.below
              replace r_cb21_0 := r_cb21_0.below hN156.below
              have o_x12 := hN156.here
              refine L_nil (thenQ_normal (W_seq (W_seq (W_region (L_mv (L_call 26 [(.pointer (some ⟨cb17, 0, none⟩))] (by kernel_rfl) (by kernel_rfl) (c_all_B cb17 v_cb17_0 am _ o_cb17 r_cb17_0.rd) ?_))))))
              rintro _ w157 ⟨cb160, rfl, o_cb160, g_cb160, hB158⟩
              have ne_x4_cb160 : b1 ≠ cb160 := by have := (obj_lt o_x4); omega
              have ne_cb160_x4 := ne_x4_cb160.symm
              have ne_cb17_cb160 : cb17 ≠ cb160 := by have := (obj_lt o_cb17); omega
              have ne_cb160_cb17 := ne_cb17_cb160.symm
              have ne_cb21_cb160 : cb21 ≠ cb160 := by have := (obj_lt o_cb21); omega
              have ne_cb160_cb21 := ne_cb21_cb160.symm
              have ne_x6_cb160 : b22 ≠ cb160 := by have := (obj_lt o_x6); omega
              have ne_cb160_x6 := ne_x6_cb160.symm
              have ne_x11_cb160 : b151 ≠ cb160 := by have := (obj_lt o_x11); omega
              have ne_cb160_x11 := ne_x11_cb160.symm
              have ne_x12_cb160 : b154 ≠ cb160 := by have := (obj_lt o_x12); omega
              have ne_cb160_x12 := ne_x12_cb160.symm
              replace g_cb160 := Nat.le_trans hs g_cb160
              replace hb := hb.trans (hB158.mono hs)
              replace hs := Nat.le_trans hs (hB158.size)
              replace o_x4 := obj_below o_x4 hB158
              replace o_cb17 := obj_below o_cb17 hB158
              replace o_cb21 := obj_below o_cb21 hB158
              replace o_x6 := obj_below o_x6 hB158
              replace o_x11 := obj_below o_x11 hB158
              replace o_x12 := obj_below o_x12 hB158
              replace p_l := p_l.below hB158
              replace p_val := p_val.below hB158
              replace r_7 := r_7.below hB158
              replace r_cb17_0 := r_cb17_0.below hB158
              replace r_cb21_0 := r_cb21_0.below hB158
              refine L_run (.bool false) (by kernel_rfl) (by kernel_rfl) (L_nil (thenQ_normal (W_false (by kernel_rfl) (W_skip (thenQ_normal (W_seq (W_seq (W_region (L_mv (L_call 26 [(.pointer (some ⟨cb17, 0, none⟩))] (by kernel_rfl) (by kernel_rfl) (c_all_B cb17 v_cb17_0 am _ o_cb17 r_cb17_0.rd) ?_))))))))))
              rintro _ w161 ⟨cb164, rfl, o_cb164, g_cb164, hB162⟩
              have ne_x4_cb164 : b1 ≠ cb164 := by have := (obj_lt o_x4); omega
              have ne_cb164_x4 := ne_x4_cb164.symm
              have ne_cb17_cb164 : cb17 ≠ cb164 := by have := (obj_lt o_cb17); omega
              have ne_cb164_cb17 := ne_cb17_cb164.symm
              have ne_cb21_cb164 : cb21 ≠ cb164 := by have := (obj_lt o_cb21); omega
              have ne_cb164_cb21 := ne_cb21_cb164.symm
              have ne_x6_cb164 : b22 ≠ cb164 := by have := (obj_lt o_x6); omega
              have ne_cb164_x6 := ne_x6_cb164.symm
              have ne_x11_cb164 : b151 ≠ cb164 := by have := (obj_lt o_x11); omega
              have ne_cb164_x11 := ne_x11_cb164.symm
              have ne_x12_cb164 : b154 ≠ cb164 := by have := (obj_lt o_x12); omega
              have ne_cb164_x12 := ne_x12_cb164.symm
              have ne_cb160_cb164 : cb160 ≠ cb164 := by have := (obj_lt o_cb160); omega
              have ne_cb164_cb160 := ne_cb160_cb164.symm
              replace g_cb164 := Nat.le_trans hs g_cb164
              replace hb := hb.trans (hB162.mono hs)
              replace hs := Nat.le_trans hs (hB162.size)
              replace o_x4 := obj_below o_x4 hB162
              replace o_cb17 := obj_below o_cb17 hB162
              replace o_cb21 := obj_below o_cb21 hB162
              replace o_x6 := obj_below o_x6 hB162
              replace o_x11 := obj_below o_x11 hB162
              replace o_x12 := obj_below o_x12 hB162
              replace o_cb160 := obj_below o_cb160 hB162
              replace p_l := p_l.below hB162
              replace p_val := p_val.below hB162
              replace r_7 := r_7.below hB162
              replace r_cb17_0 := r_cb17_0.below hB162
              replace r_cb21_0 := r_cb21_0.below hB162
              refine L_nil (thenQ_normal (W_block ?_))
              have lt_x4_0 : b1 < w161.heap.size := obj_lt o_x4
              have lt_cb17_0 : cb17 < w161.heap.size := obj_lt o_cb17
              have lt_cb21_0 : cb21 < w161.heap.size := obj_lt o_cb21
              have lt_x6_0 : b22 < w161.heap.size := obj_lt o_x6
              have lt_x11_0 : b151 < w161.heap.size := obj_lt o_x11
              have lt_x12_0 : b154 < w161.heap.size := obj_lt o_x12
              have lt_cb160_0 : cb160 < w161.heap.size := obj_lt o_cb160
              have lt_cb164_0 : cb164 < w161.heap.size := obj_lt o_cb164
              have hs_0 := hs
              have hb_0 := hb
              refine W_range 69 [(.pointer (some ⟨cb164, 0, none⟩))] am (by kernel_rfl) (fun _ _ => rfl) (it_all_B cb164 cb17 v_cb17_0 am (by omega)) ⟨o_cb164, o_cb17, r_cb17_0.rd⟩ ((fun D A B h hc hd => ⟨obj_ch h.1 hc (fun h => Nat.not_lt.2 (hd _ h) lt_cb164_0), obj_ch h.2.1 hc (fun h => Nat.not_lt.2 (hd _ h) lt_cb17_0), Rd.ch r_cb17_0.rd (Nat.le_refl _) h.2.2 hc hd⟩)) (by intro x; rfl) (fun K pre A => ∃ (one : List Rg) (v_x11_0 : Value), (A.heap[b1]? = some (.cells [(.bool false)].toArray 4 (0, 0))) ∧ (A.heap[cb17]? = some (.cells [v_cb17_0, (.bool true)].toArray 123 (0, 0))) ∧ (A.heap[cb21]? = some (.cells [v_cb21_0, (.bool true)].toArray 123 (0, 0))) ∧ (A.heap[b22]? = some (.cells [(.pointer (some ⟨cb21, 0, none⟩))].toArray 54 (0, 0))) ∧ (A.heap[b151]? = some (.cells [v_x11_0].toArray 22 (0, 0))) ∧ (A.heap[b154]? = some (.cells [(.slice none 0 0)].toArray 22 (0, 0))) ∧ (A.heap[cb160]? = some (.cells [(.pointer (some ⟨cb17, 0, none⟩))].toArray 54 (0, 0))) ∧ (A.heap[cb164]? = some (.cells [(.pointer (some ⟨cb17, 0, none⟩))].toArray 54 (0, 0))) ∧ (Row A w.heap.size 3 1 encInt v_7 T) ∧ (∀ g, Value.ownBlock v_7 = some g → ¬ Iv w161.heap.size K g) ∧ (Row A w.heap.size 127 3 encSpanB v_cb17_0 am) ∧ (∀ g, Value.ownBlock v_cb17_0 = some g → ¬ Iv w161.heap.size K g) ∧ (Row A w.heap.size 127 3 encSpanB v_cb21_0 bm) ∧ (∀ g, Value.ownBlock v_cb21_0 = some g → ¬ Iv w161.heap.size K g) ∧ (Row A w.heap.size 29 2 encRg v_x11_0 one) ∧ (∀ g, Value.ownBlock v_x11_0 = some g → ¬ Iv w161.heap.size K g) ∧ (Value.ownBlock v_cb17_0 = none ∨ Value.ownBlock v_cb17_0 ≠ Value.ownBlock v_cb21_0) ∧ (Value.ownBlock v_cb21_0 = none ∨ Value.ownBlock v_cb21_0 ≠ Value.ownBlock v_cb17_0) ∧ (Below w.heap.size w A) ∧ (one = rgs pre)) (fun K c pre A => False) ?_ ?_ ?_ ?_ ?_ ?_
              · intro A hA
                exact ⟨[], (.slice none 0 0), obj_below o_x4 hA, obj_below o_cb17 hA, obj_below o_cb21 hA, obj_below o_x6 hA, obj_below o_x11 hA, obj_below o_x12 hA, obj_below o_cb160 hA, obj_below o_cb164 hA, r_7.below hA, nr_old r_7 _, r_cb17_0.below hA, nr_old r_cb17_0 _, r_cb21_0.below hA, nr_old r_cb21_0 _, Row.nil _ _ _ _ _, nr_nil _ _, ap_r_cb17_0_r_cb21_0, ap_r_cb21_0_r_cb17_0, hb.trans (hA.mono hs), by rfl⟩
              · rintro K pre A B ⟨one, v_x11_0, o_x4, o_cb17, o_cb21, o_x6, o_x11, o_x12, o_cb160, o_cb164, r_7, nr_r_7, r_cb17_0, nr_r_cb17_0, r_cb21_0, nr_r_cb21_0, r_x11_0, nr_r_x11_0, ap_r_cb17_0_r_cb21_0, ap_r_cb21_0_r_cb17_0, hb, r1⟩ hc
                exact ⟨one, v_x11_0, obj_ch o_x4 hc (fun h => Nat.not_lt.2 h.1 lt_x4_0), obj_ch o_cb17 hc (fun h => Nat.not_lt.2 h.1 lt_cb17_0), obj_ch o_cb21 hc (fun h => Nat.not_lt.2 h.1 lt_cb21_0), obj_ch o_x6 hc (fun h => Nat.not_lt.2 h.1 lt_x6_0), obj_ch o_x11 hc (fun h => Nat.not_lt.2 h.1 lt_x11_0), obj_ch o_x12 hc (fun h => Nat.not_lt.2 h.1 lt_x12_0), obj_ch o_cb160 hc (fun h => Nat.not_lt.2 h.1 lt_cb160_0), obj_ch o_cb164 hc (fun h => Nat.not_lt.2 h.1 lt_cb164_0), r_7.ch hc nr_r_7, nr_r_7, r_cb17_0.ch hc nr_r_cb17_0, nr_r_cb17_0, r_cb21_0.ch hc nr_r_cb21_0, nr_r_cb21_0, r_x11_0.ch hc nr_r_x11_0, nr_r_x11_0, ap_r_cb17_0_r_cb21_0, ap_r_cb21_0_r_cb17_0, hc.below hb hb.size (fun k h => Nat.le_trans hs_0 h.1), r1⟩
              · intro K c _ A B h hc; exact h.elim
              · intro l K pre x A hi hN hK0 hK hpre
                obtain ⟨one, v_x11_0, o_x4, o_cb17, o_cb21, o_x6, o_x11, o_x12, o_cb160, o_cb164, r_7, nr_r_7, r_cb17_0, nr_r_cb17_0, r_cb21_0, nr_r_cb21_0, r_x11_0, nr_r_x11_0, ap_r_cb17_0_r_cb21_0, ap_r_cb21_0_r_cb17_0, hb, r1⟩ := hi
                have hs := hb.size
                have hk := Kp.refl (w161.heap.size) K A
                have nv_x4 : ¬ Iv (w161.heap.size) K b1 := fun h => Nat.not_lt.2 h.1 lt_x4_0
                have nv_cb17 : ¬ Iv (w161.heap.size) K cb17 := fun h => Nat.not_lt.2 h.1 lt_cb17_0
                have nv_cb21 : ¬ Iv (w161.heap.size) K cb21 := fun h => Nat.not_lt.2 h.1 lt_cb21_0
                have nv_x6 : ¬ Iv (w161.heap.size) K b22 := fun h => Nat.not_lt.2 h.1 lt_x6_0
                have nv_x11 : ¬ Iv (w161.heap.size) K b151 := fun h => Nat.not_lt.2 h.1 lt_x11_0
                have nv_x12 : ¬ Iv (w161.heap.size) K b154 := fun h => Nat.not_lt.2 h.1 lt_x12_0
                have nv_cb160 : ¬ Iv (w161.heap.size) K cb160 := fun h => Nat.not_lt.2 h.1 lt_cb160_0
                have nv_cb164 : ¬ Iv (w161.heap.size) K cb164 := fun h => Nat.not_lt.2 h.1 lt_cb164_0
                have p_l := in_p_l.below hb
                have p_val := in_p_val.below hb
                replace o_cb164 := hN.1
                replace o_cb17 := hN.2.1
                have hxf : atG false bm x.1 = (x.2.2, true) := hab ▸ at_first i2.ok.rise (tk_one hpre)
                have hx1 := i2.ok.rise.pre hpre
                have hx2 := i2.ok.rise.len
                have hx3 := tk_lt hpre
                have hx4 : one.length = pre.length := by rw [r1]; exact List.length_map ..
                refine W_seq (W_region (L_new (fun b => .pointer (some ⟨b, 0, none⟩)) (.cells [(.int .i32 0), (.int .i32 0)].toArray 29 (0, 0)) (by kernel_rfl) (by kernel_rfl) ?_))
                intro b165 w166 hN167
                have ne_x4_x13 : b1 ≠ b165 := by have := (obj_lt o_x4); have := hN167.num; omega
                have ne_x13_x4 := ne_x4_x13.symm
                have ne_cb17_x13 : cb17 ≠ b165 := by have := (obj_lt o_cb17); have := hN167.num; omega
                have ne_x13_cb17 := ne_cb17_x13.symm
                have ne_cb21_x13 : cb21 ≠ b165 := by have := (obj_lt o_cb21); have := hN167.num; omega
                have ne_x13_cb21 := ne_cb21_x13.symm
                have ne_x6_x13 : b22 ≠ b165 := by have := (obj_lt o_x6); have := hN167.num; omega
                have ne_x13_x6 := ne_x6_x13.symm
                have ne_x11_x13 : b151 ≠ b165 := by have := (obj_lt o_x11); have := hN167.num; omega
                have ne_x13_x11 := ne_x11_x13.symm
                have ne_x12_x13 : b154 ≠ b165 := by have := (obj_lt o_x12); have := hN167.num; omega
                have ne_x13_x12 := ne_x12_x13.symm
                have ne_cb160_x13 : cb160 ≠ b165 := by have := (obj_lt o_cb160); have := hN167.num; omega
                have ne_x13_cb160 := ne_cb160_x13.symm
                have ne_cb164_x13 : cb164 ≠ b165 := by have := (obj_lt o_cb164); have := hN167.num; omega
                have ne_x13_cb164 := ne_cb164_x13.symm
                have g_x13 : w.heap.size ≤ b165 := by rw [hN167.num]; exact hs
                have nv_x13 : ¬ Iv w161.heap.size K b165 := fun h => by have := h.2; have := hN167.num; omega
                have nb_o_x13_r_x11_0 := r_x11_0.new_ne hN167
                replace hb := hb.trans (hN167.below.mono hs)
                replace hk := hk.ch (Ch.of_below hN167.below) hK (fun _ h => h.elim)
                replace hK := Nat.le_trans hK (hN167.below.size)
                replace hs := Nat.le_trans hs (hN167.below.size)
                replace o_x4 := obj_below o_x4 hN167.below
                replace o_cb17 := obj_below o_cb17 hN167.below
                replace o_cb21 := obj_below o_cb21 hN167.below
                replace o_x6 := obj_below o_x6 hN167.below
                replace o_x11 := obj_below o_x11 hN167.below
                replace o_x12 := obj_below o_x12 hN167.below
                replace o_cb160 := obj_below o_cb160 hN167.below
                replace o_cb164 := obj_below o_cb164 hN167.below
                replace p_l := p_l.below hN167.below
                replace p_val := p_val.below hN167.below
                replace r_7 := r_7.below hN167.below
                replace r_cb17_0 := r_cb17_0.below hN167.below
                replace r_cb21_0 := r_cb21_0.below hN167.below
                replace r_x11_0 := r_x11_0.below hN167.below
                have o_x13 := hN167.here
                refine L_storeA b165 0 [(.int .i32 x.1), (.int .i32 x.2.1)] [(.int .i32 0), (.int .i32 0)] [(.int .i32 x.1), (.int .i32 x.2.1)] 29 (by kernel_rfl) (by kernel_rfl) rfl (by kernel_rfl) o_x13 (by kernel_rfl) rfl ?_
                intro w168 hW169
                replace hb := hb.trans (hW169.below g_x13)
                replace hk := hk.ch (Ch.of_wrote hW169) hK (fun k e h => nv_x13 (e ▸ h))
                replace hK := Nat.le_trans hK (Nat.le_of_eq hW169.size.symm)
                replace hs := Nat.le_trans hs (Nat.le_of_eq hW169.size.symm)
                have n_o_x4 := obj_wrote o_x4 hW169 (obj_ne o_x4 o_x13 (by simp))
                have n_o_cb17 := obj_wrote o_cb17 hW169 (obj_ne o_cb17 o_x13 (by simp))
                have n_o_cb21 := obj_wrote o_cb21 hW169 (obj_ne o_cb21 o_x13 (by simp))
                have n_o_x6 := obj_wrote o_x6 hW169 (obj_ne o_x6 o_x13 (by simp))
                have n_o_x11 := obj_wrote o_x11 hW169 (obj_ne o_x11 o_x13 (by simp))
                have n_o_x12 := obj_wrote o_x12 hW169 (obj_ne o_x12 o_x13 (by simp))
                have n_o_cb160 := obj_wrote o_cb160 hW169 (obj_ne o_cb160 o_x13 (by simp))
                have n_o_cb164 := obj_wrote o_cb164 hW169 (obj_ne o_cb164 o_x13 (by simp))
                have n_p_l := in_p_l.below hb
                have n_p_val := in_p_val.below hb
                have n_r_7 := r_7.wrote hW169 (r_7.ne o_x13 (by simp))
                have n_r_cb17_0 := r_cb17_0.wrote hW169 (r_cb17_0.ne o_x13 (by simp))
                have n_r_cb21_0 := r_cb21_0.wrote hW169 (r_cb21_0.ne o_x13 (by simp))
                have n_r_x11_0 := r_x11_0.wrote hW169 nb_o_x13_r_x11_0
                replace o_x4 := n_o_x4; clear n_o_x4
                replace o_cb17 := n_o_cb17; clear n_o_cb17
                replace o_cb21 := n_o_cb21; clear n_o_cb21
                replace o_x6 := n_o_x6; clear n_o_x6
                replace o_x11 := n_o_x11; clear n_o_x11
                replace o_x12 := n_o_x12; clear n_o_x12
                replace o_cb160 := n_o_cb160; clear n_o_cb160
                replace o_cb164 := n_o_cb164; clear n_o_cb164
                replace p_l := n_p_l; clear n_p_l
                replace p_val := n_p_val; clear n_p_val
                replace r_7 := n_r_7; clear n_r_7
                replace r_cb17_0 := n_r_cb17_0; clear n_r_cb17_0
                replace r_cb21_0 := n_r_cb21_0; clear n_r_cb21_0
                replace r_x11_0 := n_r_x11_0; clear n_r_x11_0
                replace o_x13 := hW169.here
                refine L_nil (thenQ_normal (W_region (L_as (L_nil ?_))))
                refine thenQ_normal ⟨hk, ?_⟩
                intro w170 hc171
                replace o_x4 := obj_ch o_x4 hc171 nv_x4
                replace o_cb17 := obj_ch o_cb17 hc171 nv_cb17
                replace o_cb21 := obj_ch o_cb21 hc171 nv_cb21
                replace o_x6 := obj_ch o_x6 hc171 nv_x6
                replace o_x11 := obj_ch o_x11 hc171 nv_x11
                replace o_x12 := obj_ch o_x12 hc171 nv_x12
                replace o_cb160 := obj_ch o_cb160 hc171 nv_cb160
                replace o_cb164 := obj_ch o_cb164 hc171 nv_cb164
                replace o_x13 := obj_ch o_x13 hc171 nv_x13
                replace r_7 := r_7.ch hc171 nr_r_7
                replace r_cb17_0 := r_cb17_0.ch hc171 nr_r_cb17_0
                replace r_cb21_0 := r_cb21_0.ch hc171 nr_r_cb21_0
                replace r_x11_0 := r_x11_0.ch hc171 nr_r_x11_0
                replace hb := hc171.below hb hs (fun k h => Nat.le_trans hs_0 h.1)
                replace p_l := in_p_l.below hb
                replace p_val := in_p_val.below hb
                replace hs := hb.size
                replace hK := Nat.le_trans hK hc171.size
                replace hk := Kp.refl (w161.heap.size) K w170
                refine W_block (W_seq (W_region (L_load b22 0 (.pointer (some ⟨cb21, 0, none⟩)) (by kernel_rfl) (by kernel_rfl) (cell_obj o_x6 rfl) (L_run (.pointer (some ⟨b165, 0, none⟩)) (by kernel_rfl) (by kernel_rfl) (L_load b165 0 (.int .i32 x.1) (by kernel_rfl) (by kernel_rfl) (cell_obj o_x13 rfl) (L_call 27 [(.pointer (some ⟨cb21, 0, none⟩)), (.int .i32 x.1)] (by kernel_rfl) (by kernel_rfl) (c_at_B cb21 v_cb21_0 bm x.1 _ o_cb21 r_cb21_0.rd (by first | exact i2.ok.rise | exact j2.ok.rise)) ?_))))))
                rintro _ w172 ⟨rfl, hB173⟩
                replace hb := hb.trans (hB173.mono hs)
                replace hk := hk.ch (Ch.of_below hB173) hK (fun _ h => h.elim)
                replace hK := Nat.le_trans hK (hB173.size)
                replace hs := Nat.le_trans hs (hB173.size)
                replace o_x4 := obj_below o_x4 hB173
                replace o_cb17 := obj_below o_cb17 hB173
                replace o_cb21 := obj_below o_cb21 hB173
                replace o_x6 := obj_below o_x6 hB173
                replace o_x11 := obj_below o_x11 hB173
                replace o_x12 := obj_below o_x12 hB173
                replace o_cb160 := obj_below o_cb160 hB173
                replace o_cb164 := obj_below o_cb164 hB173
                replace o_x13 := obj_below o_x13 hB173
                replace p_l := p_l.below hB173
                replace p_val := p_val.below hB173
                replace r_7 := r_7.below hB173
                replace r_cb17_0 := r_cb17_0.below hB173
                replace r_cb21_0 := r_cb21_0.below hB173
                replace r_x11_0 := r_x11_0.below hB173
                refine L_mv (L_run (.bool ((atG false bm x.1).1)) (by kernel_rfl) (by kernel_rfl) (put_split ((atG false bm x.1).1) ?_ ?_))
                · intro h175
                  refine L_run (.bool ((atG false bm x.1).2)) (by kernel_rfl) (by kernel_rfl) (put_split ((atG false bm x.1).2) ?_ ?_)
                  · intro h176
                    refine L_as (L_as (L_nil (thenQ_normal (W_seq (W_seq (W_region (L_mv (L_not true (by kernel_rfl) (L_mv (L_want (by kernel_rfl) (L_mv (L_want (by kernel_rfl) (L_mv (L_want (by kernel_rfl) (L_bNe true x.2.2 (by kernel_rfl) (by kernel_rfl) (fun c e => by cases c <;> cases e <;> kernel_rfl) ?_ ?_)))))))))))))))
                    · intro h177
                      exfalso; simp only [hxf] at *; simp_all
                    · intro h178
                      refine L_pickF (by kernel_rfl) (L_nil (thenQ_normal (W_false (by kernel_rfl) (W_skip (thenQ_normal (W_region (L_load b151 0 v_x11_0 (by kernel_rfl) (by kernel_rfl) (cell_obj o_x11 rfl) (L_loadA b165 0 [(.int .i32 x.1), (.int .i32 x.2.1)] (by kernel_rfl) (by kernel_rfl) (by kernel_rfl) (cells_at o_x13 0 (by kernel_rfl)) (L_app el22 w.heap.size v_x11_0 one (x.1, x.2.1) hs r_x11_0 (by omega) (by kernel_rfl) rfl rfl (by kernel_rfl) rfl (by kernel_rfl) (by kernel_rfl) ?_)))))))))
                      intro v179 w180 hr181 hg182 how183
                      have nr2 := nr_app how183 nr_r_x11_0 hK
                      have nc_o_x13 := ownb_app how183 nb_o_x13_r_x11_0 (obj_lt o_x13)
                      replace hb := hb.grown hg182 hs (fun k hk => (World.ownsRow.lt r_x11_0 k hk).1)
                      replace hk := hk.ch (Ch.of_grown hg182) hK (fun k e => nr_r_x11_0 k e)
                      replace hK := Nat.le_trans hK (hg182.size)
                      replace hs := Nat.le_trans hs (hg182.size)
                      have n_o_x4 := obj_grown o_x4 hg182 (r_x11_0.ne o_x4 (by simp))
                      have n_o_cb17 := obj_grown o_cb17 hg182 (r_x11_0.ne o_cb17 (by simp))
                      have n_o_cb21 := obj_grown o_cb21 hg182 (r_x11_0.ne o_cb21 (by simp))
                      have n_o_x6 := obj_grown o_x6 hg182 (r_x11_0.ne o_x6 (by simp))
                      have n_o_x11 := obj_grown o_x11 hg182 (r_x11_0.ne o_x11 (by simp))
                      have n_o_x12 := obj_grown o_x12 hg182 (r_x11_0.ne o_x12 (by simp))
                      have n_o_cb160 := obj_grown o_cb160 hg182 (r_x11_0.ne o_cb160 (by simp))
                      have n_o_cb164 := obj_grown o_cb164 hg182 (r_x11_0.ne o_cb164 (by simp))
                      have n_o_x13 := obj_grown o_x13 hg182 nb_o_x13_r_x11_0
                      have n_p_l := in_p_l.below hb
                      have n_p_val := in_p_val.below hb
                      have n_r_7 := r_7.grown hg182 (r_7.apart r_x11_0 (by kernel_rfl))
                      have n_r_cb17_0 := r_cb17_0.grown hg182 (r_cb17_0.apart r_x11_0 (by kernel_rfl))
                      have n_r_cb21_0 := r_cb21_0.grown hg182 (r_cb21_0.apart r_x11_0 (by kernel_rfl))
                      replace o_x4 := n_o_x4; clear n_o_x4
                      replace o_cb17 := n_o_cb17; clear n_o_cb17
                      replace o_cb21 := n_o_cb21; clear n_o_cb21
                      replace o_x6 := n_o_x6; clear n_o_x6
                      replace o_x11 := n_o_x11; clear n_o_x11
                      replace o_x12 := n_o_x12; clear n_o_x12
                      replace o_cb160 := n_o_cb160; clear n_o_cb160
                      replace o_cb164 := n_o_cb164; clear n_o_cb164
                      replace o_x13 := n_o_x13; clear n_o_x13
                      replace p_l := n_p_l; clear n_p_l
                      replace p_val := n_p_val; clear n_p_val
                      replace r_7 := n_r_7; clear n_r_7
                      replace r_cb17_0 := n_r_cb17_0; clear n_r_cb17_0
                      replace r_cb21_0 := n_r_cb21_0; clear n_r_cb21_0
                      have nb_o_x13_r_x11_0 := nc_o_x13
                      replace r_x11_0 := hr181
                      have nr_r_x11_0 := nr2; clear nr2
                      refine L_store b151 0 v179 [v_x11_0] [v179] 22 (by kernel_rfl) (by kernel_rfl) r_x11_0.one (by kernel_rfl) o_x11 (by simp) rfl ?_
                      intro w184 hW185
                      replace hb := hb.trans (hW185.below g_x11)
                      replace hk := hk.ch (Ch.of_wrote hW185) hK (fun k e h => nv_x11 (e ▸ h))
                      replace hK := Nat.le_trans hK (Nat.le_of_eq hW185.size.symm)
                      replace hs := Nat.le_trans hs (Nat.le_of_eq hW185.size.symm)
                      have n_o_x4 := obj_wrote o_x4 hW185 (obj_ne o_x4 o_x11 (by simp))
                      have n_o_cb17 := obj_wrote o_cb17 hW185 (obj_ne o_cb17 o_x11 (by simp))
                      have n_o_cb21 := obj_wrote o_cb21 hW185 (obj_ne o_cb21 o_x11 (by simp))
                      have n_o_x6 := obj_wrote o_x6 hW185 (obj_ne o_x6 o_x11 (by simp))
                      have n_o_x12 := obj_wrote o_x12 hW185 ne_x12_x11
                      have n_o_cb160 := obj_wrote o_cb160 hW185 (obj_ne o_cb160 o_x11 (by simp))
                      have n_o_cb164 := obj_wrote o_cb164 hW185 (obj_ne o_cb164 o_x11 (by simp))
                      have n_o_x13 := obj_wrote o_x13 hW185 (obj_ne o_x13 o_x11 (by simp))
                      have n_p_l := in_p_l.below hb
                      have n_p_val := in_p_val.below hb
                      have n_r_7 := r_7.wrote hW185 (r_7.ne o_x11 (by simp))
                      have n_r_cb17_0 := r_cb17_0.wrote hW185 (r_cb17_0.ne o_x11 (by simp))
                      have n_r_cb21_0 := r_cb21_0.wrote hW185 (r_cb21_0.ne o_x11 (by simp))
                      have n_r_x11_0 := r_x11_0.wrote hW185 (r_x11_0.ne o_x11 (by simp))
                      replace o_x4 := n_o_x4; clear n_o_x4
                      replace o_cb17 := n_o_cb17; clear n_o_cb17
                      replace o_cb21 := n_o_cb21; clear n_o_cb21
                      replace o_x6 := n_o_x6; clear n_o_x6
                      replace o_x12 := n_o_x12; clear n_o_x12
                      replace o_cb160 := n_o_cb160; clear n_o_cb160
                      replace o_cb164 := n_o_cb164; clear n_o_cb164
                      replace o_x13 := n_o_x13; clear n_o_x13
                      replace p_l := n_p_l; clear n_p_l
                      replace p_val := n_p_val; clear n_p_val
                      replace r_7 := n_r_7; clear n_r_7
                      replace r_cb17_0 := n_r_cb17_0; clear n_r_cb17_0
                      replace r_cb21_0 := n_r_cb21_0; clear n_r_cb21_0
                      replace r_x11_0 := n_r_x11_0; clear n_r_x11_0
                      replace o_x11 := hW185.here
                      refine L_nil (blkQ_normal ?_)
                      refine round_normal hk ⟨o_cb164, o_cb17, r_cb17_0.rd⟩ ⟨(one ++ [(x.1, x.2.1)]), v179, o_x4, o_cb17, o_cb21, o_x6, o_x11, o_x12, o_cb160, o_cb164, r_7, nr_r_7, r_cb17_0, nr_r_cb17_0, r_cb21_0, nr_r_cb21_0, r_x11_0, nr_r_x11_0, ap_r_cb17_0_r_cb21_0, ap_r_cb21_0_r_cb17_0, hb, ?_⟩
                      · rw [r1]; exact rgs_app _ _
                  · intro h186
                    exfalso; rw [hxf] at h186; cases h186
                · intro h187
                  refine L_run (.bool ((atG false bm x.1).2)) (by kernel_rfl) (by kernel_rfl) (put_split ((atG false bm x.1).2) ?_ ?_)
                  · intro h188
                    refine L_as (L_as (L_nil (thenQ_normal (W_seq (W_seq (W_region (L_mv (L_not true (by kernel_rfl) (L_mv (L_want (by kernel_rfl) (L_mv (L_want (by kernel_rfl) (L_mv (L_want (by kernel_rfl) (L_bNe false x.2.2 (by kernel_rfl) (by kernel_rfl) (fun c e => by cases c <;> cases e <;> kernel_rfl) ?_ ?_)))))))))))))))
                    · intro h189
                      exfalso; simp only [hxf] at *; simp_all
                    · intro h190
                      refine L_pickF (by kernel_rfl) (L_nil (thenQ_normal (W_false (by kernel_rfl) (W_skip (thenQ_normal (W_region (L_load b151 0 v_x11_0 (by kernel_rfl) (by kernel_rfl) (cell_obj o_x11 rfl) (L_loadA b165 0 [(.int .i32 x.1), (.int .i32 x.2.1)] (by kernel_rfl) (by kernel_rfl) (by kernel_rfl) (cells_at o_x13 0 (by kernel_rfl)) (L_app el22 w.heap.size v_x11_0 one (x.1, x.2.1) hs r_x11_0 (by omega) (by kernel_rfl) rfl rfl (by kernel_rfl) rfl (by kernel_rfl) (by kernel_rfl) ?_)))))))))
                      intro v191 w192 hr193 hg194 how195
                      have nr2 := nr_app how195 nr_r_x11_0 hK
                      have nc_o_x13 := ownb_app how195 nb_o_x13_r_x11_0 (obj_lt o_x13)
                      replace hb := hb.grown hg194 hs (fun k hk => (World.ownsRow.lt r_x11_0 k hk).1)
                      replace hk := hk.ch (Ch.of_grown hg194) hK (fun k e => nr_r_x11_0 k e)
                      replace hK := Nat.le_trans hK (hg194.size)
                      replace hs := Nat.le_trans hs (hg194.size)
                      have n_o_x4 := obj_grown o_x4 hg194 (r_x11_0.ne o_x4 (by simp))
                      have n_o_cb17 := obj_grown o_cb17 hg194 (r_x11_0.ne o_cb17 (by simp))
                      have n_o_cb21 := obj_grown o_cb21 hg194 (r_x11_0.ne o_cb21 (by simp))
                      have n_o_x6 := obj_grown o_x6 hg194 (r_x11_0.ne o_x6 (by simp))
                      have n_o_x11 := obj_grown o_x11 hg194 (r_x11_0.ne o_x11 (by simp))
                      have n_o_x12 := obj_grown o_x12 hg194 (r_x11_0.ne o_x12 (by simp))
                      have n_o_cb160 := obj_grown o_cb160 hg194 (r_x11_0.ne o_cb160 (by simp))
                      have n_o_cb164 := obj_grown o_cb164 hg194 (r_x11_0.ne o_cb164 (by simp))
                      have n_o_x13 := obj_grown o_x13 hg194 nb_o_x13_r_x11_0
                      have n_p_l := in_p_l.below hb
                      have n_p_val := in_p_val.below hb
                      have n_r_7 := r_7.grown hg194 (r_7.apart r_x11_0 (by kernel_rfl))
                      have n_r_cb17_0 := r_cb17_0.grown hg194 (r_cb17_0.apart r_x11_0 (by kernel_rfl))
                      have n_r_cb21_0 := r_cb21_0.grown hg194 (r_cb21_0.apart r_x11_0 (by kernel_rfl))
                      replace o_x4 := n_o_x4; clear n_o_x4
                      replace o_cb17 := n_o_cb17; clear n_o_cb17
                      replace o_cb21 := n_o_cb21; clear n_o_cb21
                      replace o_x6 := n_o_x6; clear n_o_x6
                      replace o_x11 := n_o_x11; clear n_o_x11
                      replace o_x12 := n_o_x12; clear n_o_x12
                      replace o_cb160 := n_o_cb160; clear n_o_cb160
                      replace o_cb164 := n_o_cb164; clear n_o_cb164
                      replace o_x13 := n_o_x13; clear n_o_x13
                      replace p_l := n_p_l; clear n_p_l
                      replace p_val := n_p_val; clear n_p_val
                      replace r_7 := n_r_7; clear n_r_7
                      replace r_cb17_0 := n_r_cb17_0; clear n_r_cb17_0
                      replace r_cb21_0 := n_r_cb21_0; clear n_r_cb21_0
                      have nb_o_x13_r_x11_0 := nc_o_x13
                      replace r_x11_0 := hr193
                      have nr_r_x11_0 := nr2; clear nr2
                      refine L_store b151 0 v191 [v_x11_0] [v191] 22 (by kernel_rfl) (by kernel_rfl) r_x11_0.one (by kernel_rfl) o_x11 (by simp) rfl ?_
                      intro w196 hW197
                      replace hb := hb.trans (hW197.below g_x11)
                      replace hk := hk.ch (Ch.of_wrote hW197) hK (fun k e h => nv_x11 (e ▸ h))
                      replace hK := Nat.le_trans hK (Nat.le_of_eq hW197.size.symm)
                      replace hs := Nat.le_trans hs (Nat.le_of_eq hW197.size.symm)
                      have n_o_x4 := obj_wrote o_x4 hW197 (obj_ne o_x4 o_x11 (by simp))
                      have n_o_cb17 := obj_wrote o_cb17 hW197 (obj_ne o_cb17 o_x11 (by simp))
                      have n_o_cb21 := obj_wrote o_cb21 hW197 (obj_ne o_cb21 o_x11 (by simp))
                      have n_o_x6 := obj_wrote o_x6 hW197 (obj_ne o_x6 o_x11 (by simp))
                      have n_o_x12 := obj_wrote o_x12 hW197 ne_x12_x11
                      have n_o_cb160 := obj_wrote o_cb160 hW197 (obj_ne o_cb160 o_x11 (by simp))
                      have n_o_cb164 := obj_wrote o_cb164 hW197 (obj_ne o_cb164 o_x11 (by simp))
                      have n_o_x13 := obj_wrote o_x13 hW197 (obj_ne o_x13 o_x11 (by simp))
                      have n_p_l := in_p_l.below hb
                      have n_p_val := in_p_val.below hb
                      have n_r_7 := r_7.wrote hW197 (r_7.ne o_x11 (by simp))
                      have n_r_cb17_0 := r_cb17_0.wrote hW197 (r_cb17_0.ne o_x11 (by simp))
                      have n_r_cb21_0 := r_cb21_0.wrote hW197 (r_cb21_0.ne o_x11 (by simp))
                      have n_r_x11_0 := r_x11_0.wrote hW197 (r_x11_0.ne o_x11 (by simp))
                      replace o_x4 := n_o_x4; clear n_o_x4
                      replace o_cb17 := n_o_cb17; clear n_o_cb17
                      replace o_cb21 := n_o_cb21; clear n_o_cb21
                      replace o_x6 := n_o_x6; clear n_o_x6
                      replace o_x12 := n_o_x12; clear n_o_x12
                      replace o_cb160 := n_o_cb160; clear n_o_cb160
                      replace o_cb164 := n_o_cb164; clear n_o_cb164
                      replace o_x13 := n_o_x13; clear n_o_x13
                      replace p_l := n_p_l; clear n_p_l
                      replace p_val := n_p_val; clear n_p_val
                      replace r_7 := n_r_7; clear n_r_7
                      replace r_cb17_0 := n_r_cb17_0; clear n_r_cb17_0
                      replace r_cb21_0 := n_r_cb21_0; clear n_r_cb21_0
                      replace r_x11_0 := n_r_x11_0; clear n_r_x11_0
                      replace o_x11 := hW197.here
                      refine L_nil (blkQ_normal ?_)
                      refine round_normal hk ⟨o_cb164, o_cb17, r_cb17_0.rd⟩ ⟨(one ++ [(x.1, x.2.1)]), v191, o_x4, o_cb17, o_cb21, o_x6, o_x11, o_x12, o_cb160, o_cb164, r_7, nr_r_7, r_cb17_0, nr_r_cb17_0, r_cb21_0, nr_r_cb21_0, r_x11_0, nr_r_x11_0, ap_r_cb17_0_r_cb21_0, ap_r_cb21_0_r_cb17_0, hb, ?_⟩
                      · rw [r1]; exact rgs_app _ _
                  · intro h198
                    exfalso; rw [hxf] at h198; cases h198
              · intro K A hi hsz o_D0
                obtain ⟨one, v_x11_0, o_x4, o_cb17, o_cb21, o_x6, o_x11, o_x12, o_cb160, o_cb164, r_7, nr_r_7, r_cb17_0, nr_r_cb17_0, r_cb21_0, nr_r_cb21_0, r_x11_0, nr_r_x11_0, ap_r_cb17_0_r_cb21_0, ap_r_cb21_0_r_cb17_0, hb, r1⟩ := hi
                have p_l := in_p_l.below hb
                have p_val := in_p_val.below hb
                have ne_x4_D0 : b1 ≠ w161.heap.size := Nat.ne_of_lt lt_x4_0
                have ne_D0_x4 := ne_x4_D0.symm
                have ne_cb17_D0 : cb17 ≠ w161.heap.size := Nat.ne_of_lt lt_cb17_0
                have ne_D0_cb17 := ne_cb17_D0.symm
                have ne_cb21_D0 : cb21 ≠ w161.heap.size := Nat.ne_of_lt lt_cb21_0
                have ne_D0_cb21 := ne_cb21_D0.symm
                have ne_x6_D0 : b22 ≠ w161.heap.size := Nat.ne_of_lt lt_x6_0
                have ne_D0_x6 := ne_x6_D0.symm
                have ne_x11_D0 : b151 ≠ w161.heap.size := Nat.ne_of_lt lt_x11_0
                have ne_D0_x11 := ne_x11_D0.symm
                have ne_x12_D0 : b154 ≠ w161.heap.size := Nat.ne_of_lt lt_x12_0
                have ne_D0_x12 := ne_x12_D0.symm
                have ne_cb160_D0 : cb160 ≠ w161.heap.size := Nat.ne_of_lt lt_cb160_0
                have ne_D0_cb160 := ne_cb160_D0.symm
                have ne_cb164_D0 : cb164 ≠ w161.heap.size := Nat.ne_of_lt lt_cb164_0
                have ne_D0_cb164 := ne_cb164_D0.symm
                have hs : w.heap.size ≤ _ := hb.size
                refine blkQ_normal (thenQ_normal (W_seq (W_seq (W_region (L_load b22 0 (.pointer (some ⟨cb21, 0, none⟩)) (by kernel_rfl) (by kernel_rfl) (cell_obj o_x6 rfl) (L_call 26 [(.pointer (some ⟨cb21, 0, none⟩))] (by kernel_rfl) (by kernel_rfl) (c_all_B cb21 v_cb21_0 bm _ o_cb21 r_cb21_0.rd) ?_))))))
                rintro _ w199 ⟨cb202, rfl, o_cb202, g_cb202, hB200⟩
                have ne_x4_cb202 : b1 ≠ cb202 := by have := (obj_lt o_x4); omega
                have ne_cb202_x4 := ne_x4_cb202.symm
                have ne_cb17_cb202 : cb17 ≠ cb202 := by have := (obj_lt o_cb17); omega
                have ne_cb202_cb17 := ne_cb17_cb202.symm
                have ne_cb21_cb202 : cb21 ≠ cb202 := by have := (obj_lt o_cb21); omega
                have ne_cb202_cb21 := ne_cb21_cb202.symm
                have ne_x6_cb202 : b22 ≠ cb202 := by have := (obj_lt o_x6); omega
                have ne_cb202_x6 := ne_x6_cb202.symm
                have ne_x11_cb202 : b151 ≠ cb202 := by have := (obj_lt o_x11); omega
                have ne_cb202_x11 := ne_x11_cb202.symm
                have ne_x12_cb202 : b154 ≠ cb202 := by have := (obj_lt o_x12); omega
                have ne_cb202_x12 := ne_x12_cb202.symm
                have ne_cb160_cb202 : cb160 ≠ cb202 := by have := (obj_lt o_cb160); omega
                have ne_cb202_cb160 := ne_cb160_cb202.symm
                have ne_cb164_cb202 : cb164 ≠ cb202 := by have := (obj_lt o_cb164); omega
                have ne_cb202_cb164 := ne_cb164_cb202.symm
                have ne_D0_cb202 : w161.heap.size ≠ cb202 := by have := (obj_lt o_D0); omega
                have ne_cb202_D0 := ne_D0_cb202.symm
                replace g_cb202 := Nat.le_trans hs g_cb202
                replace hb := hb.trans (hB200.mono hs)
                replace hs := Nat.le_trans hs (hB200.size)
                replace o_x4 := obj_below o_x4 hB200
                replace o_cb17 := obj_below o_cb17 hB200
                replace o_cb21 := obj_below o_cb21 hB200
                replace o_x6 := obj_below o_x6 hB200
                replace o_x11 := obj_below o_x11 hB200
                replace o_x12 := obj_below o_x12 hB200
                replace o_cb160 := obj_below o_cb160 hB200
                replace o_cb164 := obj_below o_cb164 hB200
                replace o_D0 := obj_below o_D0 hB200
                replace p_l := p_l.below hB200
                replace p_val := p_val.below hB200
                replace r_7 := r_7.below hB200
                replace r_cb17_0 := r_cb17_0.below hB200
                replace r_cb21_0 := r_cb21_0.below hB200
                replace r_x11_0 := r_x11_0.below hB200
                refine L_run (.bool false) (by kernel_rfl) (by kernel_rfl) (L_nil (thenQ_normal (W_false (by kernel_rfl) (W_skip (thenQ_normal (W_seq (W_seq (W_region (L_load b22 0 (.pointer (some ⟨cb21, 0, none⟩)) (by kernel_rfl) (by kernel_rfl) (cell_obj o_x6 rfl) (L_call 26 [(.pointer (some ⟨cb21, 0, none⟩))] (by kernel_rfl) (by kernel_rfl) (c_all_B cb21 v_cb21_0 bm _ o_cb21 r_cb21_0.rd) ?_))))))))))
                rintro _ w203 ⟨cb206, rfl, o_cb206, g_cb206, hB204⟩
                have ne_x4_cb206 : b1 ≠ cb206 := by have := (obj_lt o_x4); omega
                have ne_cb206_x4 := ne_x4_cb206.symm
                have ne_cb17_cb206 : cb17 ≠ cb206 := by have := (obj_lt o_cb17); omega
                have ne_cb206_cb17 := ne_cb17_cb206.symm
                have ne_cb21_cb206 : cb21 ≠ cb206 := by have := (obj_lt o_cb21); omega
                have ne_cb206_cb21 := ne_cb21_cb206.symm
                have ne_x6_cb206 : b22 ≠ cb206 := by have := (obj_lt o_x6); omega
                have ne_cb206_x6 := ne_x6_cb206.symm
                have ne_x11_cb206 : b151 ≠ cb206 := by have := (obj_lt o_x11); omega
                have ne_cb206_x11 := ne_x11_cb206.symm
                have ne_x12_cb206 : b154 ≠ cb206 := by have := (obj_lt o_x12); omega
                have ne_cb206_x12 := ne_x12_cb206.symm
                have ne_cb160_cb206 : cb160 ≠ cb206 := by have := (obj_lt o_cb160); omega
                have ne_cb206_cb160 := ne_cb160_cb206.symm
                have ne_cb164_cb206 : cb164 ≠ cb206 := by have := (obj_lt o_cb164); omega
                have ne_cb206_cb164 := ne_cb164_cb206.symm
                have ne_D0_cb206 : w161.heap.size ≠ cb206 := by have := (obj_lt o_D0); omega
                have ne_cb206_D0 := ne_D0_cb206.symm
                have ne_cb202_cb206 : cb202 ≠ cb206 := by have := (obj_lt o_cb202); omega
                have ne_cb206_cb202 := ne_cb202_cb206.symm
                replace g_cb206 := Nat.le_trans hs g_cb206
                replace hb := hb.trans (hB204.mono hs)
                replace hs := Nat.le_trans hs (hB204.size)
                replace o_x4 := obj_below o_x4 hB204
                replace o_cb17 := obj_below o_cb17 hB204
                replace o_cb21 := obj_below o_cb21 hB204
                replace o_x6 := obj_below o_x6 hB204
                replace o_x11 := obj_below o_x11 hB204
                replace o_x12 := obj_below o_x12 hB204
                replace o_cb160 := obj_below o_cb160 hB204
                replace o_cb164 := obj_below o_cb164 hB204
                replace o_D0 := obj_below o_D0 hB204
                replace o_cb202 := obj_below o_cb202 hB204
                replace p_l := p_l.below hB204
                replace p_val := p_val.below hB204
                replace r_7 := r_7.below hB204
                replace r_cb17_0 := r_cb17_0.below hB204
                replace r_cb21_0 := r_cb21_0.below hB204
                replace r_x11_0 := r_x11_0.below hB204
                refine L_nil (thenQ_normal (W_block ?_))
                have lt_x4_1 : b1 < w203.heap.size := obj_lt o_x4
                have lt_cb17_1 : cb17 < w203.heap.size := obj_lt o_cb17
                have lt_cb21_1 : cb21 < w203.heap.size := obj_lt o_cb21
                have lt_x6_1 : b22 < w203.heap.size := obj_lt o_x6
                have lt_x11_1 : b151 < w203.heap.size := obj_lt o_x11
                have lt_x12_1 : b154 < w203.heap.size := obj_lt o_x12
                have lt_cb160_1 : cb160 < w203.heap.size := obj_lt o_cb160
                have lt_cb164_1 : cb164 < w203.heap.size := obj_lt o_cb164
                have lt_D0_1 : w161.heap.size < w203.heap.size := obj_lt o_D0
                have lt_cb202_1 : cb202 < w203.heap.size := obj_lt o_cb202
                have lt_cb206_1 : cb206 < w203.heap.size := obj_lt o_cb206
                have hs_1 := hs
                have hb_1 := hb
                refine W_range 69 [(.pointer (some ⟨cb206, 0, none⟩))] bm (by kernel_rfl) (fun _ _ => rfl) (it_all_B cb206 cb21 v_cb21_0 bm (by omega)) ⟨o_cb206, o_cb21, r_cb21_0.rd⟩ ((fun D A B h hc hd => ⟨obj_ch h.1 hc (fun h => Nat.not_lt.2 (hd _ h) lt_cb206_1), obj_ch h.2.1 hc (fun h => Nat.not_lt.2 (hd _ h) lt_cb21_1), Rd.ch r_cb21_0.rd (Nat.le_refl _) h.2.2 hc hd⟩)) (by intro x; rfl) (fun K pre A => ∃ (two : List Rg) (v_x12_0 : Value), (A.heap[b1]? = some (.cells [(.bool false)].toArray 4 (0, 0))) ∧ (A.heap[cb17]? = some (.cells [v_cb17_0, (.bool true)].toArray 123 (0, 0))) ∧ (A.heap[cb21]? = some (.cells [v_cb21_0, (.bool true)].toArray 123 (0, 0))) ∧ (A.heap[b22]? = some (.cells [(.pointer (some ⟨cb21, 0, none⟩))].toArray 54 (0, 0))) ∧ (A.heap[b151]? = some (.cells [v_x11_0].toArray 22 (0, 0))) ∧ (A.heap[b154]? = some (.cells [v_x12_0].toArray 22 (0, 0))) ∧ (A.heap[cb160]? = some (.cells [(.pointer (some ⟨cb17, 0, none⟩))].toArray 54 (0, 0))) ∧ (A.heap[cb164]? = some (.cells [(.pointer (some ⟨cb17, 0, none⟩))].toArray 54 (0, 0))) ∧ (A.heap[w161.heap.size]? = some (.deferred (some []))) ∧ (A.heap[cb202]? = some (.cells [(.pointer (some ⟨cb21, 0, none⟩))].toArray 54 (0, 0))) ∧ (A.heap[cb206]? = some (.cells [(.pointer (some ⟨cb21, 0, none⟩))].toArray 54 (0, 0))) ∧ (Row A w.heap.size 3 1 encInt v_7 T) ∧ (∀ g, Value.ownBlock v_7 = some g → ¬ Iv w203.heap.size K g) ∧ (Row A w.heap.size 127 3 encSpanB v_cb17_0 am) ∧ (∀ g, Value.ownBlock v_cb17_0 = some g → ¬ Iv w203.heap.size K g) ∧ (Row A w.heap.size 127 3 encSpanB v_cb21_0 bm) ∧ (∀ g, Value.ownBlock v_cb21_0 = some g → ¬ Iv w203.heap.size K g) ∧ (Row A w.heap.size 29 2 encRg v_x11_0 one) ∧ (∀ g, Value.ownBlock v_x11_0 = some g → ¬ Iv w203.heap.size K g) ∧ (Row A w.heap.size 29 2 encRg v_x12_0 two) ∧ (∀ g, Value.ownBlock v_x12_0 = some g → ¬ Iv w203.heap.size K g) ∧ (Value.ownBlock v_cb17_0 = none ∨ Value.ownBlock v_cb17_0 ≠ Value.ownBlock v_cb21_0) ∧ (Value.ownBlock v_cb21_0 = none ∨ Value.ownBlock v_cb21_0 ≠ Value.ownBlock v_cb17_0) ∧ (Value.ownBlock v_x11_0 = none ∨ Value.ownBlock v_x11_0 ≠ Value.ownBlock v_x12_0) ∧ (Value.ownBlock v_x12_0 = none ∨ Value.ownBlock v_x12_0 ≠ Value.ownBlock v_x11_0) ∧ (Below w.heap.size w A) ∧ (two = rgs pre)) (fun K c pre A => False) ?_ ?_ ?_ ?_ ?_ ?_
                · intro A hA
                  exact ⟨[], (.slice none 0 0), obj_below o_x4 hA, obj_below o_cb17 hA, obj_below o_cb21 hA, obj_below o_x6 hA, obj_below o_x11 hA, obj_below o_x12 hA, obj_below o_cb160 hA, obj_below o_cb164 hA, obj_below o_D0 hA, obj_below o_cb202 hA, obj_below o_cb206 hA, r_7.below hA, nr_old r_7 _, r_cb17_0.below hA, nr_old r_cb17_0 _, r_cb21_0.below hA, nr_old r_cb21_0 _, r_x11_0.below hA, nr_old r_x11_0 _, Row.nil _ _ _ _ _, nr_nil _ _, ap_r_cb17_0_r_cb21_0, ap_r_cb21_0_r_cb17_0, ap_nil _, (.inl rfl), hb.trans (hA.mono hs), by rfl⟩
                · rintro K pre A B ⟨two, v_x12_0, o_x4, o_cb17, o_cb21, o_x6, o_x11, o_x12, o_cb160, o_cb164, o_D0, o_cb202, o_cb206, r_7, nr_r_7, r_cb17_0, nr_r_cb17_0, r_cb21_0, nr_r_cb21_0, r_x11_0, nr_r_x11_0, r_x12_0, nr_r_x12_0, ap_r_cb17_0_r_cb21_0, ap_r_cb21_0_r_cb17_0, ap_r_x11_0_r_x12_0, ap_r_x12_0_r_x11_0, hb, r2⟩ hc
                  exact ⟨two, v_x12_0, obj_ch o_x4 hc (fun h => Nat.not_lt.2 h.1 lt_x4_1), obj_ch o_cb17 hc (fun h => Nat.not_lt.2 h.1 lt_cb17_1), obj_ch o_cb21 hc (fun h => Nat.not_lt.2 h.1 lt_cb21_1), obj_ch o_x6 hc (fun h => Nat.not_lt.2 h.1 lt_x6_1), obj_ch o_x11 hc (fun h => Nat.not_lt.2 h.1 lt_x11_1), obj_ch o_x12 hc (fun h => Nat.not_lt.2 h.1 lt_x12_1), obj_ch o_cb160 hc (fun h => Nat.not_lt.2 h.1 lt_cb160_1), obj_ch o_cb164 hc (fun h => Nat.not_lt.2 h.1 lt_cb164_1), obj_ch o_D0 hc (fun h => Nat.not_lt.2 h.1 lt_D0_1), obj_ch o_cb202 hc (fun h => Nat.not_lt.2 h.1 lt_cb202_1), obj_ch o_cb206 hc (fun h => Nat.not_lt.2 h.1 lt_cb206_1), r_7.ch hc nr_r_7, nr_r_7, r_cb17_0.ch hc nr_r_cb17_0, nr_r_cb17_0, r_cb21_0.ch hc nr_r_cb21_0, nr_r_cb21_0, r_x11_0.ch hc nr_r_x11_0, nr_r_x11_0, r_x12_0.ch hc nr_r_x12_0, nr_r_x12_0, ap_r_cb17_0_r_cb21_0, ap_r_cb21_0_r_cb17_0, ap_r_x11_0_r_x12_0, ap_r_x12_0_r_x11_0, hc.below hb hb.size (fun k h => Nat.le_trans hs_1 h.1), r2⟩
                · intro K c _ A B h hc; exact h.elim
                · intro l K pre x A hi hN hK0 hK hpre
                  obtain ⟨two, v_x12_0, o_x4, o_cb17, o_cb21, o_x6, o_x11, o_x12, o_cb160, o_cb164, o_D0, o_cb202, o_cb206, r_7, nr_r_7, r_cb17_0, nr_r_cb17_0, r_cb21_0, nr_r_cb21_0, r_x11_0, nr_r_x11_0, r_x12_0, nr_r_x12_0, ap_r_cb17_0_r_cb21_0, ap_r_cb21_0_r_cb17_0, ap_r_x11_0_r_x12_0, ap_r_x12_0_r_x11_0, hb, r2⟩ := hi
                  have hs := hb.size
                  have hk := Kp.refl (w203.heap.size) K A
                  have nv_x4 : ¬ Iv (w203.heap.size) K b1 := fun h => Nat.not_lt.2 h.1 lt_x4_1
                  have nv_cb17 : ¬ Iv (w203.heap.size) K cb17 := fun h => Nat.not_lt.2 h.1 lt_cb17_1
                  have nv_cb21 : ¬ Iv (w203.heap.size) K cb21 := fun h => Nat.not_lt.2 h.1 lt_cb21_1
                  have nv_x6 : ¬ Iv (w203.heap.size) K b22 := fun h => Nat.not_lt.2 h.1 lt_x6_1
                  have nv_x11 : ¬ Iv (w203.heap.size) K b151 := fun h => Nat.not_lt.2 h.1 lt_x11_1
                  have nv_x12 : ¬ Iv (w203.heap.size) K b154 := fun h => Nat.not_lt.2 h.1 lt_x12_1
                  have nv_cb160 : ¬ Iv (w203.heap.size) K cb160 := fun h => Nat.not_lt.2 h.1 lt_cb160_1
                  have nv_cb164 : ¬ Iv (w203.heap.size) K cb164 := fun h => Nat.not_lt.2 h.1 lt_cb164_1
                  have nv_D0 : ¬ Iv (w203.heap.size) K w161.heap.size := fun h => Nat.not_lt.2 h.1 lt_D0_1
                  have nv_cb202 : ¬ Iv (w203.heap.size) K cb202 := fun h => Nat.not_lt.2 h.1 lt_cb202_1
                  have nv_cb206 : ¬ Iv (w203.heap.size) K cb206 := fun h => Nat.not_lt.2 h.1 lt_cb206_1
                  have p_l := in_p_l.below hb
                  have p_val := in_p_val.below hb
                  replace o_cb206 := hN.1
                  replace o_cb21 := hN.2.1
                  have hx2 := j2.ok.rise.len
                  have hx3 := tk_lt hpre
                  have hx4 : two.length = pre.length := by rw [r2]; exact List.length_map ..
                  refine W_region (L_new (fun b => .pointer (some ⟨b, 0, none⟩)) (.cells [(.int .i32 0), (.int .i32 0)].toArray 29 (0, 0)) (by kernel_rfl) (by kernel_rfl) ?_)
                  intro b207 w208 hN209
                  have ne_x4_x17 : b1 ≠ b207 := by have := (obj_lt o_x4); have := hN209.num; omega
                  have ne_x17_x4 := ne_x4_x17.symm
                  have ne_cb17_x17 : cb17 ≠ b207 := by have := (obj_lt o_cb17); have := hN209.num; omega
                  have ne_x17_cb17 := ne_cb17_x17.symm
                  have ne_cb21_x17 : cb21 ≠ b207 := by have := (obj_lt o_cb21); have := hN209.num; omega
                  have ne_x17_cb21 := ne_cb21_x17.symm
                  have ne_x6_x17 : b22 ≠ b207 := by have := (obj_lt o_x6); have := hN209.num; omega
                  have ne_x17_x6 := ne_x6_x17.symm
                  have ne_x11_x17 : b151 ≠ b207 := by have := (obj_lt o_x11); have := hN209.num; omega
                  have ne_x17_x11 := ne_x11_x17.symm
                  have ne_x12_x17 : b154 ≠ b207 := by have := (obj_lt o_x12); have := hN209.num; omega
                  have ne_x17_x12 := ne_x12_x17.symm
                  have ne_cb160_x17 : cb160 ≠ b207 := by have := (obj_lt o_cb160); have := hN209.num; omega
                  have ne_x17_cb160 := ne_cb160_x17.symm
                  have ne_cb164_x17 : cb164 ≠ b207 := by have := (obj_lt o_cb164); have := hN209.num; omega
                  have ne_x17_cb164 := ne_cb164_x17.symm
                  have ne_D0_x17 : w161.heap.size ≠ b207 := by have := (obj_lt o_D0); have := hN209.num; omega
                  have ne_x17_D0 := ne_D0_x17.symm
                  have ne_cb202_x17 : cb202 ≠ b207 := by have := (obj_lt o_cb202); have := hN209.num; omega
                  have ne_x17_cb202 := ne_cb202_x17.symm
                  have ne_cb206_x17 : cb206 ≠ b207 := by have := (obj_lt o_cb206); have := hN209.num; omega
                  have ne_x17_cb206 := ne_cb206_x17.symm
                  have g_x17 : w.heap.size ≤ b207 := by rw [hN209.num]; exact hs
                  have nv_x17 : ¬ Iv w203.heap.size K b207 := fun h => by have := h.2; have := hN209.num; omega
                  have nb_o_x17_r_x11_0 := r_x11_0.new_ne hN209
                  have nb_o_x17_r_x12_0 := r_x12_0.new_ne hN209
                  replace hb := hb.trans (hN209.below.mono hs)
                  replace hk := hk.ch (Ch.of_below hN209.below) hK (fun _ h => h.elim)
                  replace hK := Nat.le_trans hK (hN209.below.size)
                  replace hs := Nat.le_trans hs (hN209.below.size)
                  replace o_x4 := obj_below o_x4 hN209.below
                  replace o_cb17 := obj_below o_cb17 hN209.below
                  replace o_cb21 := obj_below o_cb21 hN209.below
                  replace o_x6 := obj_below o_x6 hN209.below
                  replace o_x11 := obj_below o_x11 hN209.below
                  replace o_x12 := obj_below o_x12 hN209.below
                  replace o_cb160 := obj_below o_cb160 hN209.below
                  replace o_cb164 := obj_below o_cb164 hN209.below
                  replace o_D0 := obj_below o_D0 hN209.below
                  replace o_cb202 := obj_below o_cb202 hN209.below
                  replace o_cb206 := obj_below o_cb206 hN209.below
                  replace p_l := p_l.below hN209.below
                  replace p_val := p_val.below hN209.below
                  replace r_7 := r_7.below hN209.below
                  replace r_cb17_0 := r_cb17_0.below hN209.below
                  replace r_cb21_0 := r_cb21_0.below hN209.below
                  replace r_x11_0 := r_x11_0.below hN209.below
                  replace r_x12_0 := r_x12_0.below hN209.below
                  have o_x17 := hN209.here
                  refine L_storeA b207 0 [(.int .i32 x.1), (.int .i32 x.2.1)] [(.int .i32 0), (.int .i32 0)] [(.int .i32 x.1), (.int .i32 x.2.1)] 29 (by kernel_rfl) (by kernel_rfl) rfl (by kernel_rfl) o_x17 (by kernel_rfl) rfl ?_
                  intro w210 hW211
                  replace hb := hb.trans (hW211.below g_x17)
                  replace hk := hk.ch (Ch.of_wrote hW211) hK (fun k e h => nv_x17 (e ▸ h))
                  replace hK := Nat.le_trans hK (Nat.le_of_eq hW211.size.symm)
                  replace hs := Nat.le_trans hs (Nat.le_of_eq hW211.size.symm)
                  have n_o_x4 := obj_wrote o_x4 hW211 (obj_ne o_x4 o_x17 (by simp))
                  have n_o_cb17 := obj_wrote o_cb17 hW211 (obj_ne o_cb17 o_x17 (by simp))
                  have n_o_cb21 := obj_wrote o_cb21 hW211 (obj_ne o_cb21 o_x17 (by simp))
                  have n_o_x6 := obj_wrote o_x6 hW211 (obj_ne o_x6 o_x17 (by simp))
                  have n_o_x11 := obj_wrote o_x11 hW211 (obj_ne o_x11 o_x17 (by simp))
                  have n_o_x12 := obj_wrote o_x12 hW211 (obj_ne o_x12 o_x17 (by simp))
                  have n_o_cb160 := obj_wrote o_cb160 hW211 (obj_ne o_cb160 o_x17 (by simp))
                  have n_o_cb164 := obj_wrote o_cb164 hW211 (obj_ne o_cb164 o_x17 (by simp))
                  have n_o_D0 := obj_wrote o_D0 hW211 (obj_ne o_D0 o_x17 (by simp))
                  have n_o_cb202 := obj_wrote o_cb202 hW211 (obj_ne o_cb202 o_x17 (by simp))
                  have n_o_cb206 := obj_wrote o_cb206 hW211 (obj_ne o_cb206 o_x17 (by simp))
                  have n_p_l := in_p_l.below hb
                  have n_p_val := in_p_val.below hb
                  have n_r_7 := r_7.wrote hW211 (r_7.ne o_x17 (by simp))
                  have n_r_cb17_0 := r_cb17_0.wrote hW211 (r_cb17_0.ne o_x17 (by simp))
                  have n_r_cb21_0 := r_cb21_0.wrote hW211 (r_cb21_0.ne o_x17 (by simp))
                  have n_r_x11_0 := r_x11_0.wrote hW211 nb_o_x17_r_x11_0
                  have n_r_x12_0 := r_x12_0.wrote hW211 nb_o_x17_r_x12_0
                  replace o_x4 := n_o_x4; clear n_o_x4
                  replace o_cb17 := n_o_cb17; clear n_o_cb17
                  replace o_cb21 := n_o_cb21; clear n_o_cb21
                  replace o_x6 := n_o_x6; clear n_o_x6
                  replace o_x11 := n_o_x11; clear n_o_x11
                  replace o_x12 := n_o_x12; clear n_o_x12
                  replace o_cb160 := n_o_cb160; clear n_o_cb160
                  replace o_cb164 := n_o_cb164; clear n_o_cb164
                  replace o_D0 := n_o_D0; clear n_o_D0
                  replace o_cb202 := n_o_cb202; clear n_o_cb202
                  replace o_cb206 := n_o_cb206; clear n_o_cb206
                  replace p_l := n_p_l; clear n_p_l
                  replace p_val := n_p_val; clear n_p_val
                  replace r_7 := n_r_7; clear n_r_7
                  replace r_cb17_0 := n_r_cb17_0; clear n_r_cb17_0
                  replace r_cb21_0 := n_r_cb21_0; clear n_r_cb21_0
                  replace r_x11_0 := n_r_x11_0; clear n_r_x11_0
                  replace r_x12_0 := n_r_x12_0; clear n_r_x12_0
                  replace o_x17 := hW211.here
                  refine L_nil ?_
                  refine thenQ_normal ⟨hk, ?_⟩
                  intro w212 hc213
                  replace o_x4 := obj_ch o_x4 hc213 nv_x4
                  replace o_cb17 := obj_ch o_cb17 hc213 nv_cb17
                  replace o_cb21 := obj_ch o_cb21 hc213 nv_cb21
                  replace o_x6 := obj_ch o_x6 hc213 nv_x6
                  replace o_x11 := obj_ch o_x11 hc213 nv_x11
                  replace o_x12 := obj_ch o_x12 hc213 nv_x12
                  replace o_cb160 := obj_ch o_cb160 hc213 nv_cb160
                  replace o_cb164 := obj_ch o_cb164 hc213 nv_cb164
                  replace o_D0 := obj_ch o_D0 hc213 nv_D0
                  replace o_cb202 := obj_ch o_cb202 hc213 nv_cb202
                  replace o_cb206 := obj_ch o_cb206 hc213 nv_cb206
                  replace o_x17 := obj_ch o_x17 hc213 nv_x17
                  replace r_7 := r_7.ch hc213 nr_r_7
                  replace r_cb17_0 := r_cb17_0.ch hc213 nr_r_cb17_0
                  replace r_cb21_0 := r_cb21_0.ch hc213 nr_r_cb21_0
                  replace r_x11_0 := r_x11_0.ch hc213 nr_r_x11_0
                  replace r_x12_0 := r_x12_0.ch hc213 nr_r_x12_0
                  replace hb := hc213.below hb hs (fun k h => Nat.le_trans hs_1 h.1)
                  replace p_l := in_p_l.below hb
                  replace p_val := in_p_val.below hb
                  replace hs := hb.size
                  replace hK := Nat.le_trans hK hc213.size
                  replace hk := Kp.refl (w203.heap.size) K w212
                  refine W_block (W_region (L_load b154 0 v_x12_0 (by kernel_rfl) (by kernel_rfl) (cell_obj o_x12 rfl) (L_loadA b207 0 [(.int .i32 x.1), (.int .i32 x.2.1)] (by kernel_rfl) (by kernel_rfl) (by kernel_rfl) (cells_at o_x17 0 (by kernel_rfl)) (L_app el22 w.heap.size v_x12_0 two (x.1, x.2.1) hs r_x12_0 (by omega) (by kernel_rfl) rfl rfl (by kernel_rfl) rfl (by kernel_rfl) (by kernel_rfl) ?_))))
                  intro v214 w215 hr216 hg217 how218
                  have nr2 := nr_app how218 nr_r_x12_0 hK
                  have nc_o_x17 := ownb_app how218 nb_o_x17_r_x12_0 (obj_lt o_x17)
                  have nap_r_x11_0 := ap_app r_x11_0 how218 ap_r_x11_0_r_x12_0
                  replace hb := hb.grown hg217 hs (fun k hk => (World.ownsRow.lt r_x12_0 k hk).1)
                  replace hk := hk.ch (Ch.of_grown hg217) hK (fun k e => nr_r_x12_0 k e)
                  replace hK := Nat.le_trans hK (hg217.size)
                  replace hs := Nat.le_trans hs (hg217.size)
                  have n_o_x4 := obj_grown o_x4 hg217 (r_x12_0.ne o_x4 (by simp))
                  have n_o_cb17 := obj_grown o_cb17 hg217 (r_x12_0.ne o_cb17 (by simp))
                  have n_o_cb21 := obj_grown o_cb21 hg217 (r_x12_0.ne o_cb21 (by simp))
                  have n_o_x6 := obj_grown o_x6 hg217 (r_x12_0.ne o_x6 (by simp))
                  have n_o_x11 := obj_grown o_x11 hg217 (r_x12_0.ne o_x11 (by simp))
                  have n_o_x12 := obj_grown o_x12 hg217 (r_x12_0.ne o_x12 (by simp))
                  have n_o_cb160 := obj_grown o_cb160 hg217 (r_x12_0.ne o_cb160 (by simp))
                  have n_o_cb164 := obj_grown o_cb164 hg217 (r_x12_0.ne o_cb164 (by simp))
                  have n_o_D0 := obj_grown o_D0 hg217 (r_x12_0.ne o_D0 (by simp))
                  have n_o_cb202 := obj_grown o_cb202 hg217 (r_x12_0.ne o_cb202 (by simp))
                  have n_o_cb206 := obj_grown o_cb206 hg217 (r_x12_0.ne o_cb206 (by simp))
                  have n_o_x17 := obj_grown o_x17 hg217 nb_o_x17_r_x12_0
                  have n_p_l := in_p_l.below hb
                  have n_p_val := in_p_val.below hb
                  have n_r_7 := r_7.grown hg217 (r_7.apart r_x12_0 (by kernel_rfl))
                  have n_r_cb17_0 := r_cb17_0.grown hg217 (r_cb17_0.apart r_x12_0 (by kernel_rfl))
                  have n_r_cb21_0 := r_cb21_0.grown hg217 (r_cb21_0.apart r_x12_0 (by kernel_rfl))
                  have n_r_x11_0 := r_x11_0.grown hg217 ap_r_x11_0_r_x12_0
                  replace o_x4 := n_o_x4; clear n_o_x4
                  replace o_cb17 := n_o_cb17; clear n_o_cb17
                  replace o_cb21 := n_o_cb21; clear n_o_cb21
                  replace o_x6 := n_o_x6; clear n_o_x6
                  replace o_x11 := n_o_x11; clear n_o_x11
                  replace o_x12 := n_o_x12; clear n_o_x12
                  replace o_cb160 := n_o_cb160; clear n_o_cb160
                  replace o_cb164 := n_o_cb164; clear n_o_cb164
                  replace o_D0 := n_o_D0; clear n_o_D0
                  replace o_cb202 := n_o_cb202; clear n_o_cb202
                  replace o_cb206 := n_o_cb206; clear n_o_cb206
                  replace o_x17 := n_o_x17; clear n_o_x17
                  replace p_l := n_p_l; clear n_p_l
                  replace p_val := n_p_val; clear n_p_val
                  replace r_7 := n_r_7; clear n_r_7
                  replace r_cb17_0 := n_r_cb17_0; clear n_r_cb17_0
                  replace r_cb21_0 := n_r_cb21_0; clear n_r_cb21_0
                  replace r_x11_0 := n_r_x11_0; clear n_r_x11_0
                  have nb_o_x17_r_x12_0 := nc_o_x17
                  have ap_r_x11_0_r_x12_0 := nap_r_x11_0; have ap_r_x12_0_r_x11_0 := ap_comm nap_r_x11_0
                  replace r_x12_0 := hr216
                  have nr_r_x12_0 := nr2; clear nr2
                  refine L_store b154 0 v214 [v_x12_0] [v214] 22 (by kernel_rfl) (by kernel_rfl) r_x12_0.one (by kernel_rfl) o_x12 (by simp) rfl ?_
                  intro w219 hW220
                  replace hb := hb.trans (hW220.below g_x12)
                  replace hk := hk.ch (Ch.of_wrote hW220) hK (fun k e h => nv_x12 (e ▸ h))
                  replace hK := Nat.le_trans hK (Nat.le_of_eq hW220.size.symm)
                  replace hs := Nat.le_trans hs (Nat.le_of_eq hW220.size.symm)
                  have n_o_x4 := obj_wrote o_x4 hW220 (obj_ne o_x4 o_x12 (by simp))
                  have n_o_cb17 := obj_wrote o_cb17 hW220 (obj_ne o_cb17 o_x12 (by simp))
                  have n_o_cb21 := obj_wrote o_cb21 hW220 (obj_ne o_cb21 o_x12 (by simp))
                  have n_o_x6 := obj_wrote o_x6 hW220 (obj_ne o_x6 o_x12 (by simp))
                  have n_o_x11 := obj_wrote o_x11 hW220 ne_x11_x12
                  have n_o_cb160 := obj_wrote o_cb160 hW220 (obj_ne o_cb160 o_x12 (by simp))
                  have n_o_cb164 := obj_wrote o_cb164 hW220 (obj_ne o_cb164 o_x12 (by simp))
                  have n_o_D0 := obj_wrote o_D0 hW220 (obj_ne o_D0 o_x12 (by simp))
                  have n_o_cb202 := obj_wrote o_cb202 hW220 (obj_ne o_cb202 o_x12 (by simp))
                  have n_o_cb206 := obj_wrote o_cb206 hW220 (obj_ne o_cb206 o_x12 (by simp))
                  have n_o_x17 := obj_wrote o_x17 hW220 (obj_ne o_x17 o_x12 (by simp))
                  have n_p_l := in_p_l.below hb
                  have n_p_val := in_p_val.below hb
                  have n_r_7 := r_7.wrote hW220 (r_7.ne o_x12 (by simp))
                  have n_r_cb17_0 := r_cb17_0.wrote hW220 (r_cb17_0.ne o_x12 (by simp))
                  have n_r_cb21_0 := r_cb21_0.wrote hW220 (r_cb21_0.ne o_x12 (by simp))
                  have n_r_x11_0 := r_x11_0.wrote hW220 (r_x11_0.ne o_x12 (by simp))
                  have n_r_x12_0 := r_x12_0.wrote hW220 (r_x12_0.ne o_x12 (by simp))
                  replace o_x4 := n_o_x4; clear n_o_x4
                  replace o_cb17 := n_o_cb17; clear n_o_cb17
                  replace o_cb21 := n_o_cb21; clear n_o_cb21
                  replace o_x6 := n_o_x6; clear n_o_x6
                  replace o_x11 := n_o_x11; clear n_o_x11
                  replace o_cb160 := n_o_cb160; clear n_o_cb160
                  replace o_cb164 := n_o_cb164; clear n_o_cb164
                  replace o_D0 := n_o_D0; clear n_o_D0
                  replace o_cb202 := n_o_cb202; clear n_o_cb202
                  replace o_cb206 := n_o_cb206; clear n_o_cb206
                  replace o_x17 := n_o_x17; clear n_o_x17
                  replace p_l := n_p_l; clear n_p_l
                  replace p_val := n_p_val; clear n_p_val
                  replace r_7 := n_r_7; clear n_r_7
                  replace r_cb17_0 := n_r_cb17_0; clear n_r_cb17_0
                  replace r_cb21_0 := n_r_cb21_0; clear n_r_cb21_0
                  replace r_x11_0 := n_r_x11_0; clear n_r_x11_0
                  replace r_x12_0 := n_r_x12_0; clear n_r_x12_0
                  replace o_x12 := hW220.here
                  refine L_nil (blkQ_normal ?_)
                  refine round_normal hk ⟨o_cb206, o_cb21, r_cb21_0.rd⟩ ⟨(two ++ [(x.1, x.2.1)]), v214, o_x4, o_cb17, o_cb21, o_x6, o_x11, o_x12, o_cb160, o_cb164, o_D0, o_cb202, o_cb206, r_7, nr_r_7, r_cb17_0, nr_r_cb17_0, r_cb21_0, nr_r_cb21_0, r_x11_0, nr_r_x11_0, r_x12_0, nr_r_x12_0, ap_r_cb17_0_r_cb21_0, ap_r_cb21_0_r_cb17_0, ap_r_x11_0_r_x12_0, ap_r_x12_0_r_x11_0, hb, ?_⟩
                  · rw [r2]; exact rgs_app _ _
                · intro K A hi hsz o_D1
                  obtain ⟨two, v_x12_0, o_x4, o_cb17, o_cb21, o_x6, o_x11, o_x12, o_cb160, o_cb164, o_D0, o_cb202, o_cb206, r_7, nr_r_7, r_cb17_0, nr_r_cb17_0, r_cb21_0, nr_r_cb21_0, r_x11_0, nr_r_x11_0, r_x12_0, nr_r_x12_0, ap_r_cb17_0_r_cb21_0, ap_r_cb21_0_r_cb17_0, ap_r_x11_0_r_x12_0, ap_r_x12_0_r_x11_0, hb, r2⟩ := hi
                  have p_l := in_p_l.below hb
                  have p_val := in_p_val.below hb
                  have ne_x4_D1 : b1 ≠ w203.heap.size := Nat.ne_of_lt lt_x4_1
                  have ne_D1_x4 := ne_x4_D1.symm
                  have ne_cb17_D1 : cb17 ≠ w203.heap.size := Nat.ne_of_lt lt_cb17_1
                  have ne_D1_cb17 := ne_cb17_D1.symm
                  have ne_cb21_D1 : cb21 ≠ w203.heap.size := Nat.ne_of_lt lt_cb21_1
                  have ne_D1_cb21 := ne_cb21_D1.symm
                  have ne_x6_D1 : b22 ≠ w203.heap.size := Nat.ne_of_lt lt_x6_1
                  have ne_D1_x6 := ne_x6_D1.symm
                  have ne_x11_D1 : b151 ≠ w203.heap.size := Nat.ne_of_lt lt_x11_1
                  have ne_D1_x11 := ne_x11_D1.symm
                  have ne_x12_D1 : b154 ≠ w203.heap.size := Nat.ne_of_lt lt_x12_1
                  have ne_D1_x12 := ne_x12_D1.symm
                  have ne_cb160_D1 : cb160 ≠ w203.heap.size := Nat.ne_of_lt lt_cb160_1
                  have ne_D1_cb160 := ne_cb160_D1.symm
                  have ne_cb164_D1 : cb164 ≠ w203.heap.size := Nat.ne_of_lt lt_cb164_1
                  have ne_D1_cb164 := ne_cb164_D1.symm
                  have ne_D0_D1 : w161.heap.size ≠ w203.heap.size := Nat.ne_of_lt lt_D0_1
                  have ne_D1_D0 := ne_D0_D1.symm
                  have ne_cb202_D1 : cb202 ≠ w203.heap.size := Nat.ne_of_lt lt_cb202_1
                  have ne_D1_cb202 := ne_cb202_D1.symm
                  have ne_cb206_D1 : cb206 ≠ w203.heap.size := Nat.ne_of_lt lt_cb206_1
                  have ne_D1_cb206 := ne_cb206_D1.symm
                  have hs : w.heap.size ≤ _ := hb.size
                  refine blkQ_normal (thenQ_normal (W_seq (W_seq (W_region (L_load b151 0 v_x11_0 (by kernel_rfl) (by kernel_rfl) (cell_obj o_x11 rfl) (L_len 22 29 (one).length v_x11_0 rfl Try.underlying22 (r_x11_0.rd).len (by kernel_rfl) (L_load b154 0 v_x12_0 (by kernel_rfl) (by kernel_rfl) (cell_obj o_x12 rfl) (L_len 22 29 (two).length v_x12_0 rfl Try.underlying22 (r_x12_0.rd).len (by kernel_rfl) (L_cmp .i64 (((one).length : Nat) : Int) (((two).length : Nat) : Int) ((one).length ≠ (two).length) rfl (cmpN_ne ((one).length) ((two).length)) (by kernel_rfl) (by kernel_rfl) ?_ ?_)))))))))
                  · intro h221
                    replace h221 : (one).length ≠ (two).length := by omega
                    exfalso; exact h221 (by rw [r1, r2, hab])
                  · intro h222
                    replace h222 : (one).length = (two).length := by omega
                    refine L_nil (thenQ_normal (W_false (by kernel_rfl) (W_skip (thenQ_normal (W_seq (W_seq (W_region (L_as (L_nil (thenQ_normal (W_block ?_)))))))))))
                    refine W_loop (fun m s0 w0 => ∃ (i : Nat), (m = one.length - i) ∧ (s0.ds = [⟨.collected w203.heap.size, #[]⟩, ⟨.collected w161.heap.size, #[]⟩]) ∧ (s0.f 4 = (.pointer (some ⟨b1, 0, none⟩))) ∧ (s0.f 11 = (.pointer (some ⟨b151, 0, none⟩))) ∧ (s0.f 12 = (.pointer (some ⟨b154, 0, none⟩))) ∧ (s0.f 18 = (.int .i64 ((i : Nat) : Int))) ∧ (Rd w0 encRg v_l l) ∧ (Rd w0 encBool v_val val) ∧ (Row w0 w.heap.size 3 1 encInt v_7 T) ∧ (Row w0 w.heap.size 127 3 encSpanB v_cb17_0 am) ∧ (Row w0 w.heap.size 127 3 encSpanB v_cb21_0 bm) ∧ (Row w0 w.heap.size 29 2 encRg v_x11_0 one) ∧ (Row w0 w.heap.size 29 2 encRg v_x12_0 two) ∧ (w0.heap[b1]? = some (.cells [(.bool false)].toArray 4 (0, 0))) ∧ (w0.heap[cb17]? = some (.cells [v_cb17_0, (.bool true)].toArray 123 (0, 0))) ∧ (w0.heap[cb21]? = some (.cells [v_cb21_0, (.bool true)].toArray 123 (0, 0))) ∧ (w0.heap[b22]? = some (.cells [(.pointer (some ⟨cb21, 0, none⟩))].toArray 54 (0, 0))) ∧ (w0.heap[b151]? = some (.cells [v_x11_0].toArray 22 (0, 0))) ∧ (w0.heap[b154]? = some (.cells [v_x12_0].toArray 22 (0, 0))) ∧ (w0.heap[cb160]? = some (.cells [(.pointer (some ⟨cb17, 0, none⟩))].toArray 54 (0, 0))) ∧ (w0.heap[cb164]? = some (.cells [(.pointer (some ⟨cb17, 0, none⟩))].toArray 54 (0, 0))) ∧ (w0.heap[w161.heap.size]? = some (.deferred (some []))) ∧ (w0.heap[cb202]? = some (.cells [(.pointer (some ⟨cb21, 0, none⟩))].toArray 54 (0, 0))) ∧ (w0.heap[cb206]? = some (.cells [(.pointer (some ⟨cb21, 0, none⟩))].toArray 54 (0, 0))) ∧ (w0.heap[w203.heap.size]? = some (.deferred (some []))) ∧ (Below w.heap.size w w0) ∧ (w.heap.size ≤ w0.heap.size) ∧ (i ≤ one.length)) _ ⟨0, rfl, (congrArg (List.cons _) (congrArg (List.cons _) hds)), by kernel_rfl, by kernel_rfl, by kernel_rfl, by kernel_rfl, p_l, p_val, r_7, r_cb17_0, r_cb21_0, r_x11_0, r_x12_0, o_x4, o_cb17, o_cb21, o_x6, o_x11, o_x12, o_cb160, o_cb164, o_D0, o_cb202, o_cb206, o_D1, hb, hs, by omega⟩ ?_
                    rintro m223 s224 w225 ⟨i, hm, hds, f_4, f_11, f_12, f_18, p_l, p_val, r_7, r_cb17_0, r_cb21_0, r_x11_0, r_x12_0, o_x4, o_cb17, o_cb21, o_x6, o_x11, o_x12, o_cb160, o_cb164, o_D0, o_cb202, o_cb206, o_D1, hb, hs, k1⟩
                    refine W_set 4 _ f_4 (W_set 11 _ f_11 (W_set 12 _ f_12 (W_set 18 _ f_18 ?_)))
                    clear f_4 f_11 f_12 f_18
                    have hol : one.length = am.length := by rw [r1]; exact List.length_map ..
                    refine W_seq (W_seq (W_region (L_mv (L_load b151 0 v_x11_0 (by kernel_rfl) (by kernel_rfl) (cell_obj o_x11 rfl) (L_len 22 29 (one).length v_x11_0 rfl Try.underlying22 (r_x11_0.rd).len (by kernel_rfl) (L_cmp .i64 ((i : Nat) : Int) (((one).length : Nat) : Int) (i < (one).length) rfl (cmpN_lt i ((one).length)) (by kernel_rfl) (by kernel_rfl) ?_ ?_))))))
                    · intro h226
                      replace h226 : i < (one).length := by omega
                      refine L_nil (thenQ_normal (W_true (by kernel_rfl) (W_skip (thenQ_normal (W_seq (W_block (W_seq (W_quiet (by kernel_rfl) (by kernel_rfl) (Lq_load b151 0 v_x11_0 (by kernel_rfl) (fun _ => by kernel_rfl) (cell_obj o_x11 rfl) (Lq_mv ?_))))))))))
                      have hz := get_some one i (by omega); obtain ⟨x227, hx228⟩ := hz
                      have hz := (r_x11_0.rd).at (k := 2) (fun _ => rfl) hx228
                      obtain ⟨g229, off230, hl231, hc232⟩ := hz
                      refine Lq_ixaddr (k := .i64) v_x11_0 i _ g229 off230 el22 hl231 (by omega) (by kernel_rfl) (by kernel_rfl) (Lq_loadA g229 (off230 + i * 2) [(.int .i32 x227.1), (.int .i32 x227.2)] (by kernel_rfl) (fun _ => by kernel_rfl) (fun _ => by kernel_rfl) hc232 (Lq_load b154 0 v_x12_0 (by kernel_rfl) (fun _ => by kernel_rfl) (cell_obj o_x12 rfl) (Lq_mv ?_)))
                      have hz := get_some two i (by omega); obtain ⟨x233, hx234⟩ := hz
                      have hz := (r_x12_0.rd).at (k := 2) (fun _ => rfl) hx234
                      obtain ⟨g235, off236, hl237, hc238⟩ := hz
                      refine Lq_ixaddr (k := .i64) v_x12_0 i _ g235 off236 el22 hl237 (by omega) (by kernel_rfl) (by kernel_rfl) (Lq_loadA g235 (off236 + i * 2) [(.int .i32 x233.1), (.int .i32 x233.2)] (by kernel_rfl) (fun _ => by kernel_rfl) (fun _ => by kernel_rfl) hc238 (Lq_aggne [(.int .i32 x227.1), (.int .i32 x227.2)] [(.int .i32 x233.1), (.int .i32 x233.2)] (x227.1 == x233.1 && x227.2 == x233.2) (by kernel_rfl) (by kernel_rfl) (by kernel_rfl) (eqagg29 x227.1 x227.2 x233.1 x233.2) ?_ ?_))
                      · intro h239
                        exfalso; have hxy := rg_same r1 r2 hab (by assumption) (by assumption); subst hxy; simp at h239
                      · intro h240
                        replace h240 : x227.1 = x233.1 ∧ x227.2 = x233.2 := by first | simpa using h240 | simpa [and_assoc] using h240 | simp_all
                        refine Lq_mv (Lq_want (by kernel_rfl) (Lq_mv (Lq_want (by kernel_rfl) (Lq_cmp .i64 ((i : Nat) : Int) ((0 : Nat) : Int) (0 < i) rfl (cmpN_gt i 0) (by kernel_rfl) (by kernel_rfl) ?_ ?_))))
                        · intro h241
                          replace h241 : 0 < i := by omega
                          refine Lq_want (by kernel_rfl) (Lq_mv (Lq_want (by kernel_rfl) (Lq_load b151 0 v_x11_0 (by kernel_rfl) (fun _ => by kernel_rfl) (cell_obj o_x11 rfl) (Lq_want (by kernel_rfl) (Lq_mv (Lq_want (by kernel_rfl) ?_))))))
                          have hz := (r_x11_0.rd).at (k := 2) (fun _ => rfl) hx228
                          obtain ⟨g244, off245, hl246, hc247⟩ := hz
                          refine Lq_ixaddr (k := .i64) v_x11_0 i _ g244 off245 el22 hl246 (by omega) (by kernel_rfl) (by kernel_rfl) (Lq_want (by kernel_rfl) (Lq_run (.pointer (some ⟨g244, (off245 + i * 2), none⟩)) (fun _ => by kernel_rfl) (Lq_want (by kernel_rfl) (Lq_load g244 (off245 + i * 2) (.int .i32 x227.1) (by kernel_rfl) (fun _ => by kernel_rfl) (hc247 0 _ rfl) (Lq_want (by kernel_rfl) (Lq_load b151 0 v_x11_0 (by kernel_rfl) (fun _ => by kernel_rfl) (cell_obj o_x11 rfl) (Lq_want (by kernel_rfl) (Lq_mv (Lq_want (by kernel_rfl) (Lq_subN i 1 (by omega) (by omega) (by kernel_rfl) (by kernel_rfl) (Lq_want (by kernel_rfl) ?_)))))))))))
                          have hz := get_some one (i - 1) (by omega); obtain ⟨x248, hx249⟩ := hz
                          have hz := (r_x11_0.rd).at (k := 2) (fun _ => rfl) hx249
                          obtain ⟨g250, off251, hl252, hc253⟩ := hz
                          refine Lq_ixaddr (k := .i64) v_x11_0 (i - 1) _ g250 off251 el22 hl252 (by omega) (by kernel_rfl) (by kernel_rfl) (Lq_want (by kernel_rfl) (Lq_run (.pointer (some ⟨g250, ((off251 + (i - 1) * 2) + 1), none⟩)) (fun _ => by kernel_rfl) (Lq_want (by kernel_rfl) (Lq_load g250 ((off251 + (i - 1) * 2) + 1) (.int .i32 x248.2) (by kernel_rfl) (fun _ => by kernel_rfl) (hc253 1 _ rfl) (Lq_want (by kernel_rfl) (Lq_cmp .i32 x227.1 x248.2 (x227.1 ≤ x248.2) rfl (cmp_le x227.1 x248.2) (by kernel_rfl) (by kernel_rfl) ?_ ?_))))))
                          · intro h254
                            replace h254 : x227.1 ≤ x248.2 := by omega
                            exfalso; have hri := rg_rise r1 i2.ok.rise (i := i - 1) (j := i) (by omega) (by assumption) (by assumption); omega
                          · intro h255
                            replace h255 : x248.2 < x227.1 := by omega
                            refine Lq_want (by kernel_rfl) (Lq_pickT (by kernel_rfl) (Lq_pickF (by kernel_rfl) (Lq_nil ?_)))
                            intro w256 hB257
                            replace hb := hb.trans (hB257.mono hs)
                            replace hs := Nat.le_trans hs (hB257.size)
                            replace o_x4 := obj_below o_x4 hB257
                            replace o_cb17 := obj_below o_cb17 hB257
                            replace o_cb21 := obj_below o_cb21 hB257
                            replace o_x6 := obj_below o_x6 hB257
                            replace o_x11 := obj_below o_x11 hB257
                            replace o_x12 := obj_below o_x12 hB257
                            replace o_cb160 := obj_below o_cb160 hB257
                            replace o_cb164 := obj_below o_cb164 hB257
                            replace o_D0 := obj_below o_D0 hB257
                            replace o_cb202 := obj_below o_cb202 hB257
                            replace o_cb206 := obj_below o_cb206 hB257
                            replace o_D1 := obj_below o_D1 hB257
                            replace p_l := p_l.below hB257
                            replace p_val := p_val.below hB257
                            replace r_7 := r_7.below hB257
                            replace r_cb17_0 := r_cb17_0.below hB257
                            replace r_cb21_0 := r_cb21_0.below hB257
                            replace r_x11_0 := r_x11_0.below hB257
                            replace r_x12_0 := r_x12_0.below hB257
                            refine thenQ_normal (W_false (by kernel_rfl) (W_skip (blkQ_normal (thenQ_normal (W_region (L_mv (L_addN i 1 (by omega) (by kernel_rfl) (by kernel_rfl) (L_as (L_nil ?_)))))))))
                            refine thenQ_normal ⟨_, ?_, (i + 1), rfl, hds, by kernel_rfl, by kernel_rfl, by kernel_rfl, by kernel_rfl, p_l, p_val, r_7, r_cb17_0, r_cb21_0, r_x11_0, r_x12_0, o_x4, o_cb17, o_cb21, o_x6, o_x11, o_x12, o_cb160, o_cb164, o_D0, o_cb202, o_cb206, o_D1, hb, hs, ?_⟩
                            · omega
                            · omega
                        · intro h258
                          replace h258 : i ≤ 0 := by omega
                          refine Lq_want (by kernel_rfl) (Lq_mv (Lq_skip (by kernel_rfl) (Lq_skip (by kernel_rfl) (Lq_skip (by kernel_rfl) (Lq_skip (by kernel_rfl) (Lq_skip (by kernel_rfl) (Lq_skip (by kernel_rfl) (Lq_skip (by kernel_rfl) (Lq_skip (by kernel_rfl) (Lq_skip (by kernel_rfl) (Lq_skip (by kernel_rfl) (Lq_skip (by kernel_rfl) (Lq_skip (by kernel_rfl) (Lq_want (by kernel_rfl) (Lq_pickF (by kernel_rfl) (Lq_pickF (by kernel_rfl) (Lq_nil ?_)))))))))))))))))
                          intro w259 hB260
                          replace hb := hb.trans (hB260.mono hs)
                          replace hs := Nat.le_trans hs (hB260.size)
                          replace o_x4 := obj_below o_x4 hB260
                          replace o_cb17 := obj_below o_cb17 hB260
                          replace o_cb21 := obj_below o_cb21 hB260
                          replace o_x6 := obj_below o_x6 hB260
                          replace o_x11 := obj_below o_x11 hB260
                          replace o_x12 := obj_below o_x12 hB260
                          replace o_cb160 := obj_below o_cb160 hB260
                          replace o_cb164 := obj_below o_cb164 hB260
                          replace o_D0 := obj_below o_D0 hB260
                          replace o_cb202 := obj_below o_cb202 hB260
                          replace o_cb206 := obj_below o_cb206 hB260
                          replace o_D1 := obj_below o_D1 hB260
                          replace p_l := p_l.below hB260
                          replace p_val := p_val.below hB260
                          replace r_7 := r_7.below hB260
                          replace r_cb17_0 := r_cb17_0.below hB260
                          replace r_cb21_0 := r_cb21_0.below hB260
                          replace r_x11_0 := r_x11_0.below hB260
                          replace r_x12_0 := r_x12_0.below hB260
                          refine thenQ_normal (W_false (by kernel_rfl) (W_skip (blkQ_normal (thenQ_normal (W_region (L_mv (L_addN i 1 (by omega) (by kernel_rfl) (by kernel_rfl) (L_as (L_nil ?_)))))))))
                          refine thenQ_normal ⟨_, ?_, (i + 1), rfl, hds, by kernel_rfl, by kernel_rfl, by kernel_rfl, by kernel_rfl, p_l, p_val, r_7, r_cb17_0, r_cb21_0, r_x11_0, r_x12_0, o_x4, o_cb17, o_cb21, o_x6, o_x11, o_x12, o_cb160, o_cb164, o_D0, o_cb202, o_cb206, o_D1, hb, hs, ?_⟩
                          · omega
                          · omega
                    · intro h261
                      replace h261 : (one).length ≤ i := by omega
                      refine L_nil (thenQ_normal (W_false (by kernel_rfl) (W_exit (thenQ_exit (thenQ_exit (blkQ_exit (thenQ_normal (W_seq (W_region (L_store b1 0 (.bool true) [(.bool false)] [(.bool true)] 4 (by kernel_rfl) (by kernel_rfl) rfl (by kernel_rfl) o_x4 (by simp) rfl ?_))))))))))
                      intro w262 hW263
                      replace hb := hb.trans (hW263.below g_x4)
                      replace hs := Nat.le_trans hs (Nat.le_of_eq hW263.size.symm)
                      have n_o_cb17 := obj_wrote o_cb17 hW263 (obj_ne o_cb17 o_x4 (by simp))
                      have n_o_cb21 := obj_wrote o_cb21 hW263 (obj_ne o_cb21 o_x4 (by simp))
                      have n_o_x6 := obj_wrote o_x6 hW263 (obj_ne o_x6 o_x4 (by simp))
                      have n_o_x11 := obj_wrote o_x11 hW263 (obj_ne o_x11 o_x4 (by simp))
                      have n_o_x12 := obj_wrote o_x12 hW263 (obj_ne o_x12 o_x4 (by simp))
                      have n_o_cb160 := obj_wrote o_cb160 hW263 (obj_ne o_cb160 o_x4 (by simp))
                      have n_o_cb164 := obj_wrote o_cb164 hW263 (obj_ne o_cb164 o_x4 (by simp))
                      have n_o_D0 := obj_wrote o_D0 hW263 (obj_ne o_D0 o_x4 (by simp))
                      have n_o_cb202 := obj_wrote o_cb202 hW263 (obj_ne o_cb202 o_x4 (by simp))
                      have n_o_cb206 := obj_wrote o_cb206 hW263 (obj_ne o_cb206 o_x4 (by simp))
                      have n_o_D1 := obj_wrote o_D1 hW263 (obj_ne o_D1 o_x4 (by simp))
                      have n_p_l := in_p_l.below hb
                      have n_p_val := in_p_val.below hb
                      have n_r_7 := r_7.wrote hW263 (r_7.ne o_x4 (by simp))
                      have n_r_cb17_0 := r_cb17_0.wrote hW263 (r_cb17_0.ne o_x4 (by simp))
                      have n_r_cb21_0 := r_cb21_0.wrote hW263 (r_cb21_0.ne o_x4 (by simp))
                      have n_r_x11_0 := r_x11_0.wrote hW263 (r_x11_0.ne o_x4 (by simp))
                      have n_r_x12_0 := r_x12_0.wrote hW263 (r_x12_0.ne o_x4 (by simp))
                      replace o_cb17 := n_o_cb17; clear n_o_cb17
                      replace o_cb21 := n_o_cb21; clear n_o_cb21
                      replace o_x6 := n_o_x6; clear n_o_x6
                      replace o_x11 := n_o_x11; clear n_o_x11
                      replace o_x12 := n_o_x12; clear n_o_x12
                      replace o_cb160 := n_o_cb160; clear n_o_cb160
                      replace o_cb164 := n_o_cb164; clear n_o_cb164
                      replace o_D0 := n_o_D0; clear n_o_D0
                      replace o_cb202 := n_o_cb202; clear n_o_cb202
                      replace o_cb206 := n_o_cb206; clear n_o_cb206
                      replace o_D1 := n_o_D1; clear n_o_D1
                      replace p_l := n_p_l; clear n_p_l
                      replace p_val := n_p_val; clear n_p_val
                      replace r_7 := n_r_7; clear n_r_7
                      replace r_cb17_0 := n_r_cb17_0; clear n_r_cb17_0
                      replace r_cb21_0 := n_r_cb21_0; clear n_r_cb21_0
                      replace r_x11_0 := n_r_x11_0; clear n_r_x11_0
                      replace r_x12_0 := n_r_x12_0; clear n_r_x12_0
                      replace o_x4 := hW263.here
                      refine L_nil (thenQ_normal (W_ret (end_retM (ds := [⟨.collected w203.heap.size, #[]⟩, ⟨.collected w161.heap.size, #[]⟩]) hds (Lv_mark o_D1 ?_))))
                      intro w264 hW265
                      replace hb := hb.trans (hW265.below hs_1)
                      replace hs := Nat.le_trans hs (Nat.le_of_eq hW265.size.symm)
                      have n_o_x4 := obj_wrote o_x4 hW265 (obj_ne o_x4 o_D1 (by simp))
                      have n_o_cb17 := obj_wrote o_cb17 hW265 (obj_ne o_cb17 o_D1 (by simp))
                      have n_o_cb21 := obj_wrote o_cb21 hW265 (obj_ne o_cb21 o_D1 (by simp))
                      have n_o_x6 := obj_wrote o_x6 hW265 (obj_ne o_x6 o_D1 (by simp))
                      have n_o_x11 := obj_wrote o_x11 hW265 (obj_ne o_x11 o_D1 (by simp))
                      have n_o_x12 := obj_wrote o_x12 hW265 (obj_ne o_x12 o_D1 (by simp))
                      have n_o_cb160 := obj_wrote o_cb160 hW265 (obj_ne o_cb160 o_D1 (by simp))
                      have n_o_cb164 := obj_wrote o_cb164 hW265 (obj_ne o_cb164 o_D1 (by simp))
                      have n_o_D0 := obj_wrote o_D0 hW265 ne_D0_D1
                      have n_o_cb202 := obj_wrote o_cb202 hW265 (obj_ne o_cb202 o_D1 (by simp))
                      have n_o_cb206 := obj_wrote o_cb206 hW265 (obj_ne o_cb206 o_D1 (by simp))
                      have n_p_l := in_p_l.below hb
                      have n_p_val := in_p_val.below hb
                      have n_r_7 := r_7.wrote hW265 (r_7.ne o_D1 (by simp))
                      have n_r_cb17_0 := r_cb17_0.wrote hW265 (r_cb17_0.ne o_D1 (by simp))
                      have n_r_cb21_0 := r_cb21_0.wrote hW265 (r_cb21_0.ne o_D1 (by simp))
                      have n_r_x11_0 := r_x11_0.wrote hW265 (r_x11_0.ne o_D1 (by simp))
                      have n_r_x12_0 := r_x12_0.wrote hW265 (r_x12_0.ne o_D1 (by simp))
                      replace o_x4 := n_o_x4; clear n_o_x4
                      replace o_cb17 := n_o_cb17; clear n_o_cb17
                      replace o_cb21 := n_o_cb21; clear n_o_cb21
                      replace o_x6 := n_o_x6; clear n_o_x6
                      replace o_x11 := n_o_x11; clear n_o_x11
                      replace o_x12 := n_o_x12; clear n_o_x12
                      replace o_cb160 := n_o_cb160; clear n_o_cb160
                      replace o_cb164 := n_o_cb164; clear n_o_cb164
                      replace o_D0 := n_o_D0; clear n_o_D0
                      replace o_cb202 := n_o_cb202; clear n_o_cb202
                      replace o_cb206 := n_o_cb206; clear n_o_cb206
                      replace p_l := n_p_l; clear n_p_l
                      replace p_val := n_p_val; clear n_p_val
                      replace r_7 := n_r_7; clear n_r_7
                      replace r_cb17_0 := n_r_cb17_0; clear n_r_cb17_0
                      replace r_cb21_0 := n_r_cb21_0; clear n_r_cb21_0
                      replace r_x11_0 := n_r_x11_0; clear n_r_x11_0
                      replace r_x12_0 := n_r_x12_0; clear n_r_x12_0
                      replace o_D1 := hW265.here
                      refine Lv_mark o_D0 ?_
                      intro w266 hW267
                      replace hb := hb.trans (hW267.below hs_0)
                      replace hs := Nat.le_trans hs (Nat.le_of_eq hW267.size.symm)
                      have n_o_x4 := obj_wrote o_x4 hW267 (obj_ne o_x4 o_D0 (by simp))
                      have n_o_cb17 := obj_wrote o_cb17 hW267 (obj_ne o_cb17 o_D0 (by simp))
                      have n_o_cb21 := obj_wrote o_cb21 hW267 (obj_ne o_cb21 o_D0 (by simp))
                      have n_o_x6 := obj_wrote o_x6 hW267 (obj_ne o_x6 o_D0 (by simp))
                      have n_o_x11 := obj_wrote o_x11 hW267 (obj_ne o_x11 o_D0 (by simp))
                      have n_o_x12 := obj_wrote o_x12 hW267 (obj_ne o_x12 o_D0 (by simp))
                      have n_o_cb160 := obj_wrote o_cb160 hW267 (obj_ne o_cb160 o_D0 (by simp))
                      have n_o_cb164 := obj_wrote o_cb164 hW267 (obj_ne o_cb164 o_D0 (by simp))
                      have n_o_cb202 := obj_wrote o_cb202 hW267 (obj_ne o_cb202 o_D0 (by simp))
                      have n_o_cb206 := obj_wrote o_cb206 hW267 (obj_ne o_cb206 o_D0 (by simp))
                      have n_o_D1 := obj_wrote o_D1 hW267 (obj_ne o_D1 o_D0 (by simp))
                      have n_p_l := in_p_l.below hb
                      have n_p_val := in_p_val.below hb
                      have n_r_7 := r_7.wrote hW267 (r_7.ne o_D0 (by simp))
                      have n_r_cb17_0 := r_cb17_0.wrote hW267 (r_cb17_0.ne o_D0 (by simp))
                      have n_r_cb21_0 := r_cb21_0.wrote hW267 (r_cb21_0.ne o_D0 (by simp))
                      have n_r_x11_0 := r_x11_0.wrote hW267 (r_x11_0.ne o_D0 (by simp))
                      have n_r_x12_0 := r_x12_0.wrote hW267 (r_x12_0.ne o_D0 (by simp))
                      replace o_x4 := n_o_x4; clear n_o_x4
                      replace o_cb17 := n_o_cb17; clear n_o_cb17
                      replace o_cb21 := n_o_cb21; clear n_o_cb21
                      replace o_x6 := n_o_x6; clear n_o_x6
                      replace o_x11 := n_o_x11; clear n_o_x11
                      replace o_x12 := n_o_x12; clear n_o_x12
                      replace o_cb160 := n_o_cb160; clear n_o_cb160
                      replace o_cb164 := n_o_cb164; clear n_o_cb164
                      replace o_cb202 := n_o_cb202; clear n_o_cb202
                      replace o_cb206 := n_o_cb206; clear n_o_cb206
                      replace o_D1 := n_o_D1; clear n_o_D1
                      replace p_l := n_p_l; clear n_p_l
                      replace p_val := n_p_val; clear n_p_val
                      replace r_7 := n_r_7; clear n_r_7
                      replace r_cb17_0 := n_r_cb17_0; clear n_r_cb17_0
                      replace r_cb21_0 := n_r_cb21_0; clear n_r_cb21_0
                      replace r_x11_0 := n_r_x11_0; clear n_r_x11_0
                      replace r_x12_0 := n_r_x12_0; clear n_r_x12_0
                      replace o_D0 := hW267.here
                      refine Lv_nil [.cell 4 4] [(.bool true)] rfl ⟨⟨⟨b1, 0, none⟩, by kernel_rfl, load_one (by kernel_rfl) (cell_obj o_x4 rfl)⟩, trivial⟩ ?_
                      have e0 : true = true := by first | rfl | exact Eq.symm (by assumption)
                      exact ⟨congrArg Value.bool e0, hb⟩
                · intro K c _ x A _ h; exact h.elim
              · intro K c _ x A _ h; exact h.elim
        · intro h268
          exfalso; exact of_decide_eq_false h268 (one_two i2 (by rw [show (z + 1).toNat = 0 by omega] at j2; exact j2))

end Go.Proofs.Ythjgnnfonofgkaa
