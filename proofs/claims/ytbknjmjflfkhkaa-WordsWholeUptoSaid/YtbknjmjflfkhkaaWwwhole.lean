/- Walks, written by my program walk.py out of the specification wwhole.py: each theorem says what one function returns and that it leaves memory as it was. -/
import Derived.Test.YtbknjmjflfkhkaaPWhole
import Derived.Test.YtbknjmjflfkhkaaWwords
import Derived.Test.YtbknjmjflfkhkaaWwnames
import Derived.Test.YtbknjmjflfkhkaaWweach
import Derived.Test.YtbknjmjflfkhkaaWwlist
import Derived.Test.YtbknjmjflfkhkaaFKk
import Derived.Test.YtbknjmjflfkhkaaProg
namespace Go.Proofs.Ytbknjmjflfkhkaa
open Go Go.RowKit Go.FK
set_option linter.unusedVariables false


set_option maxHeartbeats 4000000 in
set_option maxRecDepth 100000 in
theorem c_furrowlaw05_blank (s : List UInt8) (w : World) (hs : s.length ≤ 1073741824) :
    Calls Try.prog 26 #[(S s)] w (Ret fun v w' => v = (.bool (blankT s)) ∧ Below w.heap.size w w') := by
  refine enter (args := [(S s)]) Try.func26 rfl (by kernel_rfl : _ = 13) (by kernel_rfl) ?_
  have hb := Below.refl w.heap.size w
  have hs : w.heap.size ≤ w.heap.size := Nat.le_refl _
  refine W_seq (W_region (L_as (L_nil (thenQ_normal (W_seq (W_seq (W_region (L_mv (L_range s Try.underlying9 (by kernel_rfl) ?_)))))))))
  intro b1 w2 hN3
  have g_it6 : w.heap.size ≤ b1 := by rw [hN3.num]; exact hs
  replace hb := hb.trans (hN3.below.mono hs)
  replace hs := Nat.le_trans hs (hN3.below.size)
  have o_it6 := hN3.here
  refine L_nil (thenQ_normal (W_block ?_))
  refine W_loop (fun m s0 w0 => ∃ (pos : Nat), (m = s.length - pos) ∧ (s0.ds = []) ∧ (s0.f 6 = (.pointer (some ⟨b1, 0, none⟩))) ∧ (w0.heap[b1]? = some (.stringIter ⟨(s).toArray⟩ pos)) ∧ (Below w.heap.size w w0) ∧ (w.heap.size ≤ w0.heap.size) ∧ (pos ≤ s.length) ∧ ((runesFrom s 0).all blankB = (runesFrom s pos).all blankB) ∧ (∃ pre, runesFrom s 0 = pre ++ runesFrom s pos)) _ ⟨0, rfl, by kernel_rfl, by kernel_rfl, o_it6, hb, hs, by omega, rfl, ⟨[], rfl⟩⟩ ?_
  rintro m4 s5 w6 ⟨pos, hm, hds, f_6, o_it6, hb, hs, i1, i3, i4⟩
  refine W_set 6 _ f_6 ?_
  clear f_6
  refine W_seq (W_region ?_)
  rcases Nat.lt_or_ge pos (s).length with lt_it6 | ge_it6
  · refine L_next s b1 pos (by kernel_rfl) o_it6 lt_it6 ?_
    intro c_it6 w7 ch_it6 hW8
    replace hb := hb.trans (hW8.below g_it6)
    replace hs := Nat.le_trans hs (Nat.le_of_eq hW8.size.symm)
    replace o_it6 := hW8.here
    have := dec_pos s pos; have := dec_fits s pos lt_it6; have := dec_le s pos
    have c_it6_0 : 0 ≤ c_it6 := by omega
    have c_it6_1 : c_it6 ≤ 2147483647 := by omega
    refine L_run (.bool true) (by kernel_rfl) (by kernel_rfl) (L_nil (thenQ_normal (W_seq (W_true (by kernel_rfl) (W_skip (thenQ_normal (W_block (W_seq (W_region (L_run (.int .i32 c_it6) (by kernel_rfl) (by kernel_rfl) (L_as (L_nil (thenQ_normal (W_seq (W_region (L_mv (L_call 13 [(.int .i32 c_it6)] (by kernel_rfl) (by kernel_rfl) (c_words_Blank c_it6 _ ) ?_)))))))))))))))))
    rintro _ w9 ⟨rfl, hB10⟩
    replace hb := hb.trans (hB10.mono hs)
    replace hs := Nat.le_trans hs (hB10.size)
    replace o_it6 := obj_below o_it6 hB10
    refine put_split (blankB c_it6) ?_ ?_
    · intro h12
      refine L_not true (by kernel_rfl) (L_nil (thenQ_normal (W_false (by kernel_rfl) (W_skip (blkQ_normal ?_)))))
      refine thenQ_normal ⟨_, ?_, (pos + (dec s pos).2), rfl, hds, by kernel_rfl, o_it6, hb, hs, ?_, ?_, ?_⟩
      · omega
      · omega
      · rw [i3, runesFrom_step lt_it6, ← ch_it6, List.all_cons, (by assumption : blankB c_it6 = true)]; rfl
      · obtain ⟨pre, i4⟩ := i4; exact ⟨pre ++ [c_it6], by rw [i4, runesFrom_step lt_it6, ← ch_it6]; simp⟩
    · intro h13
      refine L_not false (by kernel_rfl) (L_nil (thenQ_normal (W_true (by kernel_rfl) (W_seq (W_region (L_as (L_nil (thenQ_normal (W_ret (blkQ_ret (thenQ_ret (blkQ_ret (thenQ_ret ?_)))))))))))))
      refine end_ret [.tmp 2] [(.bool false)] rfl hds ⟨by kernel_rfl, trivial⟩ ?_
      have e0 : false = blankT s := by first | (unfold blankT; rw [i3, runesFrom_end ge_it6]; rfl) | exact (blankT_false i4 lt_it6 ch_it6 (by assumption)).symm
      exact ⟨congrArg Value.bool e0, hb⟩
  · refine L_nextEnd s b1 pos (by kernel_rfl) o_it6 ge_it6 (L_run (.bool false) (by kernel_rfl) (by kernel_rfl) (L_nil (thenQ_normal (W_seq (W_false (by kernel_rfl) (W_exit (thenQ_exit (thenQ_exit (blkQ_exit (thenQ_normal (W_seq (W_region (L_as (L_nil (thenQ_normal (W_ret ?_))))))))))))))))
    refine end_ret [.tmp 2] [(.bool true)] rfl hds ⟨by kernel_rfl, trivial⟩ ?_
    have e0 : true = blankT s := by first | (unfold blankT; rw [i3, runesFrom_end ge_it6]; rfl) | exact (blankT_false i4 lt_it6 ch_it6 (by assumption)).symm
    exact ⟨congrArg Value.bool e0, hb⟩

set_option maxHeartbeats 4000000 in
set_option maxRecDepth 100000 in
theorem c_furrowlaw05_WordsWhole (a : List UInt8) (b : List UInt8) (w : World) (ha : a.length + b.length ≤ 1048576) :
    Calls Try.prog 8 #[(S a), (S b)] w (Ret fun v w' => v = (.bool true) ∧ Below w.heap.size w w') := by
  refine enterM (args := [(S a), (S b)]) Try.func8 rfl (by kernel_rfl : _ = 152) (by kernel_rfl) ?_
  have hb := Below.refl w.heap.size w
  have hs : w.heap.size ≤ w.heap.size := Nat.le_refl _
  have hff := fin_facts a
  refine W_seq (W_region (L_new (fun b => .pointer (some ⟨b, 0, none⟩)) (.cells [(S a)].toArray 9 (0, 0)) (by kernel_rfl) (by kernel_rfl) ?_))
  intro b1 w2 hN3
  have g_x2 : w.heap.size ≤ b1 := by rw [hN3.num]; exact hs
  replace hb := hb.trans (hN3.below.mono hs)
  replace hs := Nat.le_trans hs (hN3.below.size)
  have o_x2 := hN3.here
  refine L_new (fun b => .pointer (some ⟨b, 0, none⟩)) (.cells [(.bool false)].toArray 4 (0, 0)) (by kernel_rfl) (by kernel_rfl) ?_
  intro b4 w5 hN6
  have ne_x2_x4 : b1 ≠ b4 := by have := obj_lt o_x2; have := hN6.num; omega
  have ne_x4_x2 := ne_x2_x4.symm
  have g_x4 : w.heap.size ≤ b4 := by rw [hN6.num]; exact hs
  replace hb := hb.trans (hN6.below.mono hs)
  replace hs := Nat.le_trans hs (hN6.below.size)
  replace o_x2 := obj_below o_x2 hN6.below
  have o_x4 := hN6.here
  refine L_nil (thenQ_normal (W_seq (W_seq (W_region (L_call 15 [] (by kernel_rfl) (by kernel_rfl) (c_furrowlaw05_awake  _ ) ?_)))))
  rintro _ w7 ⟨rfl, hB8⟩
  replace hb := hb.trans (hB8.mono hs)
  replace hs := Nat.le_trans hs (hB8.size)
  replace o_x2 := obj_below o_x2 hB8
  replace o_x4 := obj_below o_x4 hB8
  refine L_not true (by kernel_rfl) (L_nil (thenQ_normal (W_false (by kernel_rfl) (W_skip (thenQ_normal (W_seq (W_region (L_new (fun b => .pointer (some ⟨b, 0, none⟩)) (.cells [(.int .i64 0)].toArray 3 (0, 0)) (by kernel_rfl) (by kernel_rfl) ?_))))))))
  intro b10 w11 hN12
  have ne_x2_x5 : b1 ≠ b10 := by have := obj_lt o_x2; have := hN12.num; omega
  have ne_x5_x2 := ne_x2_x5.symm
  have ne_x4_x5 : b4 ≠ b10 := by have := obj_lt o_x4; have := hN12.num; omega
  have ne_x5_x4 := ne_x4_x5.symm
  have g_x5 : w.heap.size ≤ b10 := by rw [hN12.num]; exact hs
  replace hb := hb.trans (hN12.below.mono hs)
  replace hs := Nat.le_trans hs (hN12.below.size)
  replace o_x2 := obj_below o_x2 hN12.below
  replace o_x4 := obj_below o_x4 hN12.below
  have o_x5 := hN12.here
  refine L_store b10 0 (.int .i64 0) [(.int .i64 0)] [(.int .i64 0)] 3 (by kernel_rfl) (by kernel_rfl) rfl (by kernel_rfl) o_x5 (by simp) rfl ?_
  intro w13 hW14
  replace hb := hb.trans (hW14.below g_x5)
  replace hs := Nat.le_trans hs (Nat.le_of_eq hW14.size.symm)
  have n_o_x2 := obj_wrote o_x2 hW14 (obj_ne o_x2 o_x5 (by simp))
  have n_o_x4 := obj_wrote o_x4 hW14 (obj_ne o_x4 o_x5 (by simp))
  replace o_x2 := n_o_x2; clear n_o_x2
  replace o_x4 := n_o_x4; clear n_o_x4
  replace o_x5 := hW14.here
  refine L_nil (thenQ_normal (W_seq (W_region (L_new (fun b => .pointer (some ⟨b, 0, none⟩)) (.cells [(.int .i64 0)].toArray 3 (0, 0)) (by kernel_rfl) (by kernel_rfl) ?_))))
  intro b15 w16 hN17
  have ne_x2_x6 : b1 ≠ b15 := by have := obj_lt o_x2; have := hN17.num; omega
  have ne_x6_x2 := ne_x2_x6.symm
  have ne_x4_x6 : b4 ≠ b15 := by have := obj_lt o_x4; have := hN17.num; omega
  have ne_x6_x4 := ne_x4_x6.symm
  have ne_x5_x6 : b10 ≠ b15 := by have := obj_lt o_x5; have := hN17.num; omega
  have ne_x6_x5 := ne_x5_x6.symm
  have g_x6 : w.heap.size ≤ b15 := by rw [hN17.num]; exact hs
  replace hb := hb.trans (hN17.below.mono hs)
  replace hs := Nat.le_trans hs (hN17.below.size)
  replace o_x2 := obj_below o_x2 hN17.below
  replace o_x4 := obj_below o_x4 hN17.below
  replace o_x5 := obj_below o_x5 hN17.below
  have o_x6 := hN17.here
  refine L_store b15 0 (.int .i64 0) [(.int .i64 0)] [(.int .i64 0)] 3 (by kernel_rfl) (by kernel_rfl) rfl (by kernel_rfl) o_x6 (by simp) rfl ?_
  intro w18 hW19
  replace hb := hb.trans (hW19.below g_x6)
  replace hs := Nat.le_trans hs (Nat.le_of_eq hW19.size.symm)
  have n_o_x2 := obj_wrote o_x2 hW19 (obj_ne o_x2 o_x6 (by simp))
  have n_o_x4 := obj_wrote o_x4 hW19 (obj_ne o_x4 o_x6 (by simp))
  have n_o_x5 := obj_wrote o_x5 hW19 ne_x5_x6
  replace o_x2 := n_o_x2; clear n_o_x2
  replace o_x4 := n_o_x4; clear n_o_x4
  replace o_x5 := n_o_x5; clear n_o_x5
  replace o_x6 := hW19.here
  refine L_nil (thenQ_normal (W_seq (W_seq (W_region (L_load b1 0 (S a) (by kernel_rfl) (by kernel_rfl) (cell_obj o_x2 rfl) (L_call 17 [(S a)] (by kernel_rfl) (by kernel_rfl) (c_words_Each a _ ) ?_))))))
  rintro _ w20 ⟨cb23, rfl, o_cb23, g_cb23, hB21⟩
  have ne_x2_cb23 : b1 ≠ cb23 := by have := obj_lt o_x2; omega
  have ne_cb23_x2 := ne_x2_cb23.symm
  have ne_x4_cb23 : b4 ≠ cb23 := by have := obj_lt o_x4; omega
  have ne_cb23_x4 := ne_x4_cb23.symm
  have ne_x5_cb23 : b10 ≠ cb23 := by have := obj_lt o_x5; omega
  have ne_cb23_x5 := ne_x5_cb23.symm
  have ne_x6_cb23 : b15 ≠ cb23 := by have := obj_lt o_x6; omega
  have ne_cb23_x6 := ne_x6_cb23.symm
  replace g_cb23 := Nat.le_trans hs g_cb23
  replace hb := hb.trans (hB21.mono hs)
  replace hs := Nat.le_trans hs (hB21.size)
  replace o_x2 := obj_below o_x2 hB21
  replace o_x4 := obj_below o_x4 hB21
  replace o_x5 := obj_below o_x5 hB21
  replace o_x6 := obj_below o_x6 hB21
  refine L_run (.bool false) (by kernel_rfl) (by kernel_rfl) (L_nil (thenQ_normal (W_false (by kernel_rfl) (W_skip (thenQ_normal (W_seq (W_seq (W_region (L_load b1 0 (S a) (by kernel_rfl) (by kernel_rfl) (cell_obj o_x2 rfl) (L_call 17 [(S a)] (by kernel_rfl) (by kernel_rfl) (c_words_Each a _ ) ?_))))))))))
  rintro _ w24 ⟨cb27, rfl, o_cb27, g_cb27, hB25⟩
  have ne_x2_cb27 : b1 ≠ cb27 := by have := obj_lt o_x2; omega
  have ne_cb27_x2 := ne_x2_cb27.symm
  have ne_x4_cb27 : b4 ≠ cb27 := by have := obj_lt o_x4; omega
  have ne_cb27_x4 := ne_x4_cb27.symm
  have ne_x5_cb27 : b10 ≠ cb27 := by have := obj_lt o_x5; omega
  have ne_cb27_x5 := ne_x5_cb27.symm
  have ne_x6_cb27 : b15 ≠ cb27 := by have := obj_lt o_x6; omega
  have ne_cb27_x6 := ne_x6_cb27.symm
  have ne_cb23_cb27 : cb23 ≠ cb27 := by have := obj_lt o_cb23; omega
  have ne_cb27_cb23 := ne_cb23_cb27.symm
  replace g_cb27 := Nat.le_trans hs g_cb27
  replace hb := hb.trans (hB25.mono hs)
  replace hs := Nat.le_trans hs (hB25.size)
  replace o_x2 := obj_below o_x2 hB25
  replace o_x4 := obj_below o_x4 hB25
  replace o_x5 := obj_below o_x5 hB25
  replace o_x6 := obj_below o_x6 hB25
  replace o_cb23 := obj_below o_cb23 hB25
  refine L_nil (thenQ_normal (W_block ?_))
  have lt_x2_0 : b1 < w24.heap.size := obj_lt o_x2
  have lt_x4_0 : b4 < w24.heap.size := obj_lt o_x4
  have lt_x5_0 : b10 < w24.heap.size := obj_lt o_x5
  have lt_x6_0 : b15 < w24.heap.size := obj_lt o_x6
  have lt_cb23_0 : cb23 < w24.heap.size := obj_lt o_cb23
  have lt_cb27_0 : cb27 < w24.heap.size := obj_lt o_cb27
  have hs_0 := hs
  have hb_0 := hb
  refine W_range 40 [(.pointer (some ⟨cb27, 0, none⟩))] (wordsOf a) (by kernel_rfl) (fun _ _ => rfl) (it_words_Each_1 cb27 a (by first | omega | (simp only [List.length_drop, List.length_take, List.length_append, List.length_cons, List.length_nil]; omega))) o_cb27 ((fun D A B h hc hd => obj_ch h hc (fun h => Nat.not_lt.2 (hd _ h) lt_cb27_0))) (by intro x; rfl) (fun K pre A => ∃ (en : Int) (n : Nat), (A.heap[b1]? = some (.cells [(S a)].toArray 9 (0, 0))) ∧ (A.heap[b4]? = some (.cells [(.bool false)].toArray 4 (0, 0))) ∧ (A.heap[b10]? = some (.cells [(.int .i64 en)].toArray 3 (0, 0))) ∧ (A.heap[b15]? = some (.cells [(.int .i64 ((n : Nat) : Int))].toArray 3 (0, 0))) ∧ (A.heap[cb23]? = some (.cells [(S a)].toArray 9 (0, 0))) ∧ (A.heap[cb27]? = some (.cells [(S a)].toArray 9 (0, 0))) ∧ (Below w.heap.size w A) ∧ (en = ((endOf pre : Nat) : Int)) ∧ (n = pre.length)) (fun K c pre A => False) ?_ ?_ ?_ ?_ ?_ ?_
  · intro A hA
    exact ⟨0, 0, obj_below o_x2 hA, obj_below o_x4 hA, obj_below o_x5 hA, obj_below o_x6 hA, obj_below o_cb23 hA, obj_below o_cb27 hA, hb.trans (hA.mono hs), by rfl, by rfl⟩
  · rintro K pre A B ⟨en, n, o_x2, o_x4, o_x5, o_x6, o_cb23, o_cb27, hb, pe, pn⟩ hc
    exact ⟨en, n, obj_ch o_x2 hc (fun h => Nat.not_lt.2 h.1 lt_x2_0), obj_ch o_x4 hc (fun h => Nat.not_lt.2 h.1 lt_x4_0), obj_ch o_x5 hc (fun h => Nat.not_lt.2 h.1 lt_x5_0), obj_ch o_x6 hc (fun h => Nat.not_lt.2 h.1 lt_x6_0), obj_ch o_cb23 hc (fun h => Nat.not_lt.2 h.1 lt_cb23_0), obj_ch o_cb27 hc (fun h => Nat.not_lt.2 h.1 lt_cb27_0), hc.below hb hb.size (fun k h => Nat.le_trans hs_0 h.1), pe, pn⟩
  · intro K c _ A B h hc; exact h.elim
  · intro l K pre x A hi hN hK0 hK hpre
    obtain ⟨en, n, o_x2, o_x4, o_x5, o_x6, o_cb23, o_cb27, hb, pe, pn⟩ := hi
    have hs := hb.size
    have hk := Kp.refl (w24.heap.size) K A
    have nv_x2 : ¬ Iv (w24.heap.size) K b1 := fun h => Nat.not_lt.2 h.1 lt_x2_0
    have nv_x4 : ¬ Iv (w24.heap.size) K b4 := fun h => Nat.not_lt.2 h.1 lt_x4_0
    have nv_x5 : ¬ Iv (w24.heap.size) K b10 := fun h => Nat.not_lt.2 h.1 lt_x5_0
    have nv_x6 : ¬ Iv (w24.heap.size) K b15 := fun h => Nat.not_lt.2 h.1 lt_x6_0
    have nv_cb23 : ¬ Iv (w24.heap.size) K cb23 := fun h => Nat.not_lt.2 h.1 lt_cb23_0
    have nv_cb27 : ¬ Iv (w24.heap.size) K cb27 := fun h => Nat.not_lt.2 h.1 lt_cb27_0
    replace o_cb27 := hN
    have hwf := word_facts hpre
    have hwl := words_len hpre
    rw [← pn] at hwf
    have hen : en.toNat = endOf pre := by omega
    refine W_seq (W_region (L_as (L_nil (thenQ_normal (W_region (L_as (L_nil ?_)))))))
    refine thenQ_normal ⟨hk, ?_⟩
    intro w28 hc29
    replace o_x2 := obj_ch o_x2 hc29 nv_x2
    replace o_x4 := obj_ch o_x4 hc29 nv_x4
    replace o_x5 := obj_ch o_x5 hc29 nv_x5
    replace o_x6 := obj_ch o_x6 hc29 nv_x6
    replace o_cb23 := obj_ch o_cb23 hc29 nv_cb23
    replace o_cb27 := obj_ch o_cb27 hc29 nv_cb27
    replace hb := hc29.below hb hs (fun k h => Nat.le_trans hs_0 h.1)
    replace hs := hb.size
    replace hK := Nat.le_trans hK hc29.size
    replace hk := Kp.refl (w24.heap.size) K w28
    refine W_block (W_seq (W_seq (W_region (L_mv (L_load b10 0 (.int .i64 en) (by kernel_rfl) (by kernel_rfl) (cell_obj o_x5 rfl) (L_cmp .i64 x.1 en (x.1 < en) rfl (cmp_lt x.1 en) (by kernel_rfl) (by kernel_rfl) ?_ ?_))))))
    · intro h30
      replace h30 : x.1 < en := by omega
      exfalso; omega
    · intro h31
      replace h31 : en ≤ x.1 := by omega
      refine L_mv (L_want (by kernel_rfl) (L_mv (L_want (by kernel_rfl) (L_mv (L_want (by kernel_rfl) (L_slen 9 x.2 rfl Try.underlying9 (by kernel_rfl) (L_want (by kernel_rfl) (L_arith x.1 (((x.2).length : Nat) : Int) (x.1 + (((x.2).length : Nat) : Int)) rfl (by kernel_rfl) (by kernel_rfl) (wrap_i64 _ (by simp only [arithZ]; omega) (by simp only [arithZ]; omega)) (L_want (by kernel_rfl) (L_load b1 0 (S a) (by kernel_rfl) (by kernel_rfl) (cell_obj o_x2 rfl) (L_want (by kernel_rfl) (L_slen 9 a rfl Try.underlying9 (by kernel_rfl) (L_want (by kernel_rfl) (L_cmp .i64 (x.1 + (((x.2).length : Nat) : Int)) (((a).length : Nat) : Int) ((((a).length : Nat) : Int) < (x.1 + (((x.2).length : Nat) : Int))) rfl (cmp_gt (x.1 + (((x.2).length : Nat) : Int)) (((a).length : Nat) : Int)) (by kernel_rfl) (by kernel_rfl) ?_ ?_))))))))))))))
      · intro h32
        replace h32 : (((a).length : Nat) : Int) < (x.1 + (((x.2).length : Nat) : Int)) := by omega
        refine L_pickF (by kernel_rfl) (L_mv (L_skip (by kernel_rfl) (L_skip (by kernel_rfl) (L_skip (by kernel_rfl) (L_pickT (by kernel_rfl) (L_mv (L_skip (by kernel_rfl) (L_skip (by kernel_rfl) (L_skip (by kernel_rfl) (L_skip (by kernel_rfl) (L_skip (by kernel_rfl) (L_skip (by kernel_rfl) (L_skip (by kernel_rfl) (L_skip (by kernel_rfl) (L_skip (by kernel_rfl) (L_pickT (by kernel_rfl) (L_mv (L_skip (by kernel_rfl) (L_skip (by kernel_rfl) (L_skip (by kernel_rfl) (L_skip (by kernel_rfl) (L_skip (by kernel_rfl) (L_skip (by kernel_rfl) (L_pickT (by kernel_rfl) (L_mv (L_skip (by kernel_rfl) (L_skip (by kernel_rfl) (L_skip (by kernel_rfl) (L_skip (by kernel_rfl) (L_skip (by kernel_rfl) (L_skip (by kernel_rfl) (L_skip (by kernel_rfl) (L_pickT (by kernel_rfl) (L_nil (thenQ_normal (W_true (by kernel_rfl) (W_seq (W_region (L_store b4 0 (.bool false) [(.bool false)] [(.bool false)] 4 (by kernel_rfl) (by kernel_rfl) rfl (by kernel_rfl) o_x4 (by simp) rfl ?_)))))))))))))))))))))))))))))))))))))))
        intro w33 hW34
        replace hb := hb.trans (hW34.below g_x4)
        replace hk := hk.ch (Ch.of_wrote hW34) hK (fun k e h => nv_x4 (e ▸ h))
        replace hK := Nat.le_trans hK (Nat.le_of_eq hW34.size.symm)
        replace hs := Nat.le_trans hs (Nat.le_of_eq hW34.size.symm)
        have n_o_x2 := obj_wrote o_x2 hW34 (obj_ne o_x2 o_x4 (by simp))
        have n_o_x5 := obj_wrote o_x5 hW34 (obj_ne o_x5 o_x4 (by simp))
        have n_o_x6 := obj_wrote o_x6 hW34 (obj_ne o_x6 o_x4 (by simp))
        have n_o_cb23 := obj_wrote o_cb23 hW34 (obj_ne o_cb23 o_x4 (by simp))
        have n_o_cb27 := obj_wrote o_cb27 hW34 (obj_ne o_cb27 o_x4 (by simp))
        replace o_x2 := n_o_x2; clear n_o_x2
        replace o_x5 := n_o_x5; clear n_o_x5
        replace o_x6 := n_o_x6; clear n_o_x6
        replace o_cb23 := n_o_cb23; clear n_o_cb23
        replace o_cb27 := n_o_cb27; clear n_o_cb27
        replace o_x4 := hW34.here
        refine L_nil (thenQ_normal (W_ret (thenQ_ret (blkQ_ret ?_))))
        exfalso; first | omega | (simp_all; done)
      · intro h35
        replace h35 : (x.1 + (((x.2).length : Nat) : Int)) ≤ (((a).length : Nat) : Int) := by omega
        refine L_pickF (by kernel_rfl) (L_mv (L_want (by kernel_rfl) (L_mv (L_want (by kernel_rfl) (L_slen 9 x.2 rfl Try.underlying9 (by kernel_rfl) (L_want (by kernel_rfl) (L_cmp .i64 (((x.2).length : Nat) : Int) ((0 : Nat) : Int) ((x.2).length = 0) rfl (cmpN_eq ((x.2).length) 0) (by kernel_rfl) (by kernel_rfl) ?_ ?_)))))))
        · intro h36
          replace h36 : (x.2).length = 0 := by omega
          exfalso; omega
        · intro h37
          replace h37 : (x.2).length ≠ 0 := by omega
          refine L_pickF (by kernel_rfl) (L_mv (L_want (by kernel_rfl) (L_load b1 0 (S a) (by kernel_rfl) (by kernel_rfl) (cell_obj o_x2 rfl) (L_want (by kernel_rfl) (L_mv (L_want (by kernel_rfl) (L_mv (L_want (by kernel_rfl) (L_mv (L_want (by kernel_rfl) (L_slen 9 x.2 rfl Try.underlying9 (by kernel_rfl) (L_want (by kernel_rfl) (L_arith x.1 (((x.2).length : Nat) : Int) (x.1 + (((x.2).length : Nat) : Int)) rfl (by kernel_rfl) (by kernel_rfl) (wrap_i64 _ (by simp only [arithZ]; omega) (by simp only [arithZ]; omega)) (L_want (by kernel_rfl) (L_sslice a ((x.1).toNat) (((x.1 + (((x.2).length : Nat) : Int))).toNat) Try.underlying9 (by kernel_rfl) (toNat_val x.1 .i64 (by kernel_rfl) (by omega)) (toNat_val (x.1 + (((x.2).length : Nat) : Int)) .i64 (by kernel_rfl) (by omega)) (by first | omega | (simp only [List.length_drop, List.length_take, List.length_append, List.length_cons, List.length_nil]; omega)) (by first | omega | (simp only [List.length_drop, List.length_take, List.length_append, List.length_cons, List.length_nil]; omega)) (L_want (by kernel_rfl) (L_mv (L_want (by kernel_rfl) (L_sne (List.drop ((x.1).toNat) (List.take (((x.1 + (((x.2).length : Nat) : Int))).toNat) a)) x.2 rfl (by kernel_rfl) (by kernel_rfl) ?_ ?_)))))))))))))))))))
          · intro h38
            exfalso; exact h38 hwf.2.2.2.2.1
          · intro h39
            refine L_pickF (by kernel_rfl) (L_mv (L_want (by kernel_rfl) (L_load b1 0 (S a) (by kernel_rfl) (by kernel_rfl) (cell_obj o_x2 rfl) (L_want (by kernel_rfl) (L_load b10 0 (.int .i64 en) (by kernel_rfl) (by kernel_rfl) (cell_obj o_x5 rfl) (L_want (by kernel_rfl) (L_mv (L_want (by kernel_rfl) (L_sslice a ((en).toNat) ((x.1).toNat) Try.underlying9 (by kernel_rfl) (toNat_val en .i64 (by kernel_rfl) (by omega)) (toNat_val x.1 .i64 (by kernel_rfl) (by omega)) (by first | omega | (simp only [List.length_drop, List.length_take, List.length_append, List.length_cons, List.length_nil]; omega)) (by first | omega | (simp only [List.length_drop, List.length_take, List.length_append, List.length_cons, List.length_nil]; omega)) (L_want (by kernel_rfl) (L_call 26 [(S (List.drop ((en).toNat) (List.take ((x.1).toNat) a)))] (by kernel_rfl) (by kernel_rfl) (c_furrowlaw05_blank (List.drop ((en).toNat) (List.take ((x.1).toNat) a)) _ (by first | omega | (simp only [List.length_drop, List.length_take, List.length_append, List.length_cons, List.length_nil]; omega))) ?_)))))))))))
            rintro _ w40 ⟨rfl, hB41⟩
            replace hb := hb.trans (hB41.mono hs)
            replace hk := hk.ch (Ch.of_below hB41) hK (fun _ h => h.elim)
            replace hK := Nat.le_trans hK (hB41.size)
            replace hs := Nat.le_trans hs (hB41.size)
            replace o_x2 := obj_below o_x2 hB41
            replace o_x4 := obj_below o_x4 hB41
            replace o_x5 := obj_below o_x5 hB41
            replace o_x6 := obj_below o_x6 hB41
            replace o_cb23 := obj_below o_cb23 hB41
            replace o_cb27 := obj_below o_cb27 hB41
            refine put_split (blankT (List.drop ((en).toNat) (List.take ((x.1).toNat) a))) ?_ ?_
            · intro h43
              refine L_want (by kernel_rfl) (L_not true (by kernel_rfl) (L_pickF (by kernel_rfl) (L_mv (L_want (by kernel_rfl) (L_load b15 0 (.int .i64 ((n : Nat) : Int)) (by kernel_rfl) (by kernel_rfl) (cell_obj o_x6 rfl) (L_want (by kernel_rfl) (L_cmp .i64 ((n : Nat) : Int) ((0 : Nat) : Int) (0 < n) rfl (cmpN_gt n 0) (by kernel_rfl) (by kernel_rfl) ?_ ?_)))))))
              · intro h44
                replace h44 : 0 < n := by omega
                refine L_want (by kernel_rfl) (L_mv (L_want (by kernel_rfl) (L_mv (L_want (by kernel_rfl) (L_load b10 0 (.int .i64 en) (by kernel_rfl) (by kernel_rfl) (cell_obj o_x5 rfl) (L_want (by kernel_rfl) (L_cmp .i64 x.1 en (x.1 = en) rfl (cmp_eq x.1 en) (by kernel_rfl) (by kernel_rfl) ?_ ?_)))))))
                · intro h45
                  replace h45 : x.1 = en := by omega
                  exfalso; exact hwf.2.2.2.2.2.2.1 (by omega) (h45.trans pe)
                · intro h46
                  replace h46 : x.1 ≠ en := by omega
                  refine L_want (by kernel_rfl) (L_pickT (by kernel_rfl) (L_pickF (by kernel_rfl) (L_nil (thenQ_normal (W_false (by kernel_rfl) (W_skip (thenQ_normal (W_seq (W_seq (W_region (L_mv (L_range x.2 Try.underlying9 (by kernel_rfl) ?_))))))))))))
                  intro b47 w48 hN49
                  have ne_x2_it75 : b1 ≠ b47 := by have := obj_lt o_x2; have := hN49.num; omega
                  have ne_it75_x2 := ne_x2_it75.symm
                  have ne_x4_it75 : b4 ≠ b47 := by have := obj_lt o_x4; have := hN49.num; omega
                  have ne_it75_x4 := ne_x4_it75.symm
                  have ne_x5_it75 : b10 ≠ b47 := by have := obj_lt o_x5; have := hN49.num; omega
                  have ne_it75_x5 := ne_x5_it75.symm
                  have ne_x6_it75 : b15 ≠ b47 := by have := obj_lt o_x6; have := hN49.num; omega
                  have ne_it75_x6 := ne_x6_it75.symm
                  have ne_cb23_it75 : cb23 ≠ b47 := by have := obj_lt o_cb23; have := hN49.num; omega
                  have ne_it75_cb23 := ne_cb23_it75.symm
                  have ne_cb27_it75 : cb27 ≠ b47 := by have := obj_lt o_cb27; have := hN49.num; omega
                  have ne_it75_cb27 := ne_cb27_it75.symm
                  have g_it75 : w.heap.size ≤ b47 := by rw [hN49.num]; exact hs
                  have nv_it75 : ¬ Iv w24.heap.size K b47 := fun h => by have := h.2; have := hN49.num; omega
                  replace hb := hb.trans (hN49.below.mono hs)
                  replace hk := hk.ch (Ch.of_below hN49.below) hK (fun _ h => h.elim)
                  replace hK := Nat.le_trans hK (hN49.below.size)
                  replace hs := Nat.le_trans hs (hN49.below.size)
                  replace o_x2 := obj_below o_x2 hN49.below
                  replace o_x4 := obj_below o_x4 hN49.below
                  replace o_x5 := obj_below o_x5 hN49.below
                  replace o_x6 := obj_below o_x6 hN49.below
                  replace o_cb23 := obj_below o_cb23 hN49.below
                  replace o_cb27 := obj_below o_cb27 hN49.below
                  have o_it75 := hN49.here
                  refine L_nil (thenQ_normal (W_block ?_))
                  refine W_loop (fun m s0 w0 => ∃ (pos : Nat), (m = x.2.length - pos) ∧ (s0.ds = []) ∧ (s0.f 1 = (S b)) ∧ (s0.f 2 = (.pointer (some ⟨b1, 0, none⟩))) ∧ (s0.f 4 = (.pointer (some ⟨b4, 0, none⟩))) ∧ (s0.f 5 = (.pointer (some ⟨b10, 0, none⟩))) ∧ (s0.f 6 = (.pointer (some ⟨b15, 0, none⟩))) ∧ (s0.f 7 = (.int .i64 x.1)) ∧ (s0.f 8 = (S x.2)) ∧ (s0.f 75 = (.pointer (some ⟨b47, 0, none⟩))) ∧ (w0.heap[b1]? = some (.cells [(S a)].toArray 9 (0, 0))) ∧ (w0.heap[b4]? = some (.cells [(.bool false)].toArray 4 (0, 0))) ∧ (w0.heap[b10]? = some (.cells [(.int .i64 en)].toArray 3 (0, 0))) ∧ (w0.heap[b15]? = some (.cells [(.int .i64 ((n : Nat) : Int))].toArray 3 (0, 0))) ∧ (w0.heap[cb23]? = some (.cells [(S a)].toArray 9 (0, 0))) ∧ (w0.heap[cb27]? = some (.cells [(S a)].toArray 9 (0, 0))) ∧ (w0.heap[b47]? = some (.stringIter ⟨(x.2).toArray⟩ pos)) ∧ (Below w.heap.size w w0) ∧ (w.heap.size ≤ w0.heap.size) ∧ (Kp (w24.heap.size) K w28 w0) ∧ (K ≤ w0.heap.size) ∧ (pos ≤ x.2.length) ∧ (∃ pre, runesFrom x.2 0 = pre ++ runesFrom x.2 pos)) _ ⟨0, rfl, by kernel_rfl, by kernel_rfl, by kernel_rfl, by kernel_rfl, by kernel_rfl, by kernel_rfl, by kernel_rfl, by kernel_rfl, by kernel_rfl, o_x2, o_x4, o_x5, o_x6, o_cb23, o_cb27, o_it75, hb, hs, hk, hK, by omega, ⟨[], rfl⟩⟩ ?_
                  rintro m50 s51 w52 ⟨pos, hm, hds, f_1, f_2, f_4, f_5, f_6, f_7, f_8, f_75, o_x2, o_x4, o_x5, o_x6, o_cb23, o_cb27, o_it75, hb, hs, hk, hK, j1, j2⟩
                  refine W_set 1 _ f_1 (W_set 2 _ f_2 (W_set 4 _ f_4 (W_set 5 _ f_5 (W_set 6 _ f_6 (W_set 7 _ f_7 (W_set 8 _ f_8 (W_set 75 _ f_75 ?_)))))))
                  clear f_1 f_2 f_4 f_5 f_6 f_7 f_8 f_75
                  refine W_seq (W_region ?_)
                  rcases Nat.lt_or_ge pos (x.2).length with lt_it75 | ge_it75
                  · refine L_next x.2 b47 pos (by kernel_rfl) o_it75 lt_it75 ?_
                    intro c_it75 w53 ch_it75 hW54
                    replace hb := hb.trans (hW54.below g_it75)
                    replace hk := hk.ch (Ch.of_wrote hW54) hK (fun k e h => nv_it75 (e ▸ h))
                    replace hK := Nat.le_trans hK (Nat.le_of_eq hW54.size.symm)
                    replace hs := Nat.le_trans hs (Nat.le_of_eq hW54.size.symm)
                    have n_o_x2 := obj_wrote o_x2 hW54 (obj_ne o_x2 o_it75 (by simp))
                    have n_o_x4 := obj_wrote o_x4 hW54 (obj_ne o_x4 o_it75 (by simp))
                    have n_o_x5 := obj_wrote o_x5 hW54 (obj_ne o_x5 o_it75 (by simp))
                    have n_o_x6 := obj_wrote o_x6 hW54 (obj_ne o_x6 o_it75 (by simp))
                    have n_o_cb23 := obj_wrote o_cb23 hW54 (obj_ne o_cb23 o_it75 (by simp))
                    have n_o_cb27 := obj_wrote o_cb27 hW54 (obj_ne o_cb27 o_it75 (by simp))
                    replace o_x2 := n_o_x2; clear n_o_x2
                    replace o_x4 := n_o_x4; clear n_o_x4
                    replace o_x5 := n_o_x5; clear n_o_x5
                    replace o_x6 := n_o_x6; clear n_o_x6
                    replace o_cb23 := n_o_cb23; clear n_o_cb23
                    replace o_cb27 := n_o_cb27; clear n_o_cb27
                    replace o_it75 := hW54.here
                    have := dec_pos x.2 pos; have := dec_fits x.2 pos lt_it75; have := dec_le x.2 pos
                    have c_it75_0 : 0 ≤ c_it75 := by omega
                    have c_it75_1 : c_it75 ≤ 2147483647 := by omega
                    refine L_run (.bool true) (by kernel_rfl) (by kernel_rfl) (L_nil (thenQ_normal (W_seq (W_true (by kernel_rfl) (W_skip (thenQ_normal (W_block (W_seq (W_region (L_run (.int .i32 c_it75) (by kernel_rfl) (by kernel_rfl) (L_as (L_nil (thenQ_normal (W_seq (W_region (L_mv (L_call 13 [(.int .i32 c_it75)] (by kernel_rfl) (by kernel_rfl) (c_words_Blank c_it75 _ ) ?_)))))))))))))))))
                    rintro _ w55 ⟨rfl, hB56⟩
                    replace hb := hb.trans (hB56.mono hs)
                    replace hk := hk.ch (Ch.of_below hB56) hK (fun _ h => h.elim)
                    replace hK := Nat.le_trans hK (hB56.size)
                    replace hs := Nat.le_trans hs (hB56.size)
                    replace o_x2 := obj_below o_x2 hB56
                    replace o_x4 := obj_below o_x4 hB56
                    replace o_x5 := obj_below o_x5 hB56
                    replace o_x6 := obj_below o_x6 hB56
                    replace o_cb23 := obj_below o_cb23 hB56
                    replace o_cb27 := obj_below o_cb27 hB56
                    replace o_it75 := obj_below o_it75 hB56
                    refine put_split (blankB c_it75) ?_ ?_
                    · intro h58
                      exfalso; obtain ⟨pre2, j2⟩ := j2; have hq := hwf.2.2.2.2.2.2.2.2.1 c_it75 (by rw [j2, runesFrom_step lt_it75, ← ch_it75]; simp); rw [h58] at hq; cases hq
                    · intro h59
                      refine L_nil (thenQ_normal (W_false (by kernel_rfl) (W_skip (blkQ_normal ?_))))
                      refine thenQ_normal ⟨_, ?_, (pos + (dec x.2 pos).2), rfl, hds, by kernel_rfl, by kernel_rfl, by kernel_rfl, by kernel_rfl, by kernel_rfl, by kernel_rfl, by kernel_rfl, by kernel_rfl, o_x2, o_x4, o_x5, o_x6, o_cb23, o_cb27, o_it75, hb, hs, hk, hK, ?_, ?_⟩
                      · omega
                      · omega
                      · obtain ⟨pre, j2⟩ := j2; exact ⟨pre ++ [c_it75], by rw [j2, runesFrom_step lt_it75, ← ch_it75]; simp⟩
                  · refine L_nextEnd x.2 b47 pos (by kernel_rfl) o_it75 ge_it75 (L_run (.bool false) (by kernel_rfl) (by kernel_rfl) (L_nil (thenQ_normal (W_seq (W_false (by kernel_rfl) (W_exit (thenQ_exit (thenQ_exit (blkQ_exit (thenQ_normal (W_seq (W_region (L_mv (L_mv (L_slen 9 x.2 rfl Try.underlying9 (by kernel_rfl) (L_arith x.1 (((x.2).length : Nat) : Int) (x.1 + (((x.2).length : Nat) : Int)) rfl (by kernel_rfl) (by kernel_rfl) (wrap_i64 _ (by simp only [arithZ]; omega) (by simp only [arithZ]; omega)) (L_store b10 0 (.int .i64 (x.1 + (((x.2).length : Nat) : Int))) [(.int .i64 en)] [(.int .i64 (x.1 + (((x.2).length : Nat) : Int)))] 3 (by kernel_rfl) (by kernel_rfl) rfl (by kernel_rfl) o_x5 (by simp) rfl ?_)))))))))))))))))
                    intro w60 hW61
                    replace hb := hb.trans (hW61.below g_x5)
                    replace hk := hk.ch (Ch.of_wrote hW61) hK (fun k e h => nv_x5 (e ▸ h))
                    replace hK := Nat.le_trans hK (Nat.le_of_eq hW61.size.symm)
                    replace hs := Nat.le_trans hs (Nat.le_of_eq hW61.size.symm)
                    have n_o_x2 := obj_wrote o_x2 hW61 (obj_ne o_x2 o_x5 (by simp))
                    have n_o_x4 := obj_wrote o_x4 hW61 (obj_ne o_x4 o_x5 (by simp))
                    have n_o_x6 := obj_wrote o_x6 hW61 ne_x6_x5
                    have n_o_cb23 := obj_wrote o_cb23 hW61 (obj_ne o_cb23 o_x5 (by simp))
                    have n_o_cb27 := obj_wrote o_cb27 hW61 (obj_ne o_cb27 o_x5 (by simp))
                    have n_o_it75 := obj_wrote o_it75 hW61 (obj_ne o_it75 o_x5 (by simp))
                    replace o_x2 := n_o_x2; clear n_o_x2
                    replace o_x4 := n_o_x4; clear n_o_x4
                    replace o_x6 := n_o_x6; clear n_o_x6
                    replace o_cb23 := n_o_cb23; clear n_o_cb23
                    replace o_cb27 := n_o_cb27; clear n_o_cb27
                    replace o_it75 := n_o_it75; clear n_o_it75
                    replace o_x5 := hW61.here
                    refine L_nil (thenQ_normal (W_region (L_load b15 0 (.int .i64 ((n : Nat) : Int)) (by kernel_rfl) (by kernel_rfl) (cell_obj o_x6 rfl) (L_addN n 1 (by omega) (by kernel_rfl) (by kernel_rfl) (L_store b15 0 (.int .i64 (((n + 1) : Nat) : Int)) [(.int .i64 ((n : Nat) : Int))] [(.int .i64 (((n + 1) : Nat) : Int))] 3 (by kernel_rfl) (by kernel_rfl) rfl (by kernel_rfl) o_x6 (by simp) rfl ?_)))))
                    intro w62 hW63
                    replace hb := hb.trans (hW63.below g_x6)
                    replace hk := hk.ch (Ch.of_wrote hW63) hK (fun k e h => nv_x6 (e ▸ h))
                    replace hK := Nat.le_trans hK (Nat.le_of_eq hW63.size.symm)
                    replace hs := Nat.le_trans hs (Nat.le_of_eq hW63.size.symm)
                    have n_o_x2 := obj_wrote o_x2 hW63 (obj_ne o_x2 o_x6 (by simp))
                    have n_o_x4 := obj_wrote o_x4 hW63 (obj_ne o_x4 o_x6 (by simp))
                    have n_o_x5 := obj_wrote o_x5 hW63 ne_x5_x6
                    have n_o_cb23 := obj_wrote o_cb23 hW63 (obj_ne o_cb23 o_x6 (by simp))
                    have n_o_cb27 := obj_wrote o_cb27 hW63 (obj_ne o_cb27 o_x6 (by simp))
                    have n_o_it75 := obj_wrote o_it75 hW63 (obj_ne o_it75 o_x6 (by simp))
                    replace o_x2 := n_o_x2; clear n_o_x2
                    replace o_x4 := n_o_x4; clear n_o_x4
                    replace o_x5 := n_o_x5; clear n_o_x5
                    replace o_cb23 := n_o_cb23; clear n_o_cb23
                    replace o_cb27 := n_o_cb27; clear n_o_cb27
                    replace o_it75 := n_o_it75; clear n_o_it75
                    replace o_x6 := hW63.here
                    refine L_nil (blkQ_normal ?_)
                    refine round_normal hk o_cb27 ⟨(x.1 + (((x.2).length : Nat) : Int)), (n + 1), o_x2, o_x4, o_x5, o_x6, o_cb23, o_cb27, hb, ?_, ?_⟩
                    · rw [hwf.2.2.2.2.2.2.2.2.2]; omega
                    · simp [pn]
              · intro h64
                replace h64 : n ≤ 0 := by omega
                refine L_want (by kernel_rfl) (L_mv (L_skip (by kernel_rfl) (L_skip (by kernel_rfl) (L_skip (by kernel_rfl) (L_want (by kernel_rfl) (L_pickF (by kernel_rfl) (L_pickF (by kernel_rfl) (L_nil (thenQ_normal (W_false (by kernel_rfl) (W_skip (thenQ_normal (W_seq (W_seq (W_region (L_mv (L_range x.2 Try.underlying9 (by kernel_rfl) ?_)))))))))))))))))
                intro b65 w66 hN67
                have ne_x2_it75 : b1 ≠ b65 := by have := obj_lt o_x2; have := hN67.num; omega
                have ne_it75_x2 := ne_x2_it75.symm
                have ne_x4_it75 : b4 ≠ b65 := by have := obj_lt o_x4; have := hN67.num; omega
                have ne_it75_x4 := ne_x4_it75.symm
                have ne_x5_it75 : b10 ≠ b65 := by have := obj_lt o_x5; have := hN67.num; omega
                have ne_it75_x5 := ne_x5_it75.symm
                have ne_x6_it75 : b15 ≠ b65 := by have := obj_lt o_x6; have := hN67.num; omega
                have ne_it75_x6 := ne_x6_it75.symm
                have ne_cb23_it75 : cb23 ≠ b65 := by have := obj_lt o_cb23; have := hN67.num; omega
                have ne_it75_cb23 := ne_cb23_it75.symm
                have ne_cb27_it75 : cb27 ≠ b65 := by have := obj_lt o_cb27; have := hN67.num; omega
                have ne_it75_cb27 := ne_cb27_it75.symm
                have g_it75 : w.heap.size ≤ b65 := by rw [hN67.num]; exact hs
                have nv_it75 : ¬ Iv w24.heap.size K b65 := fun h => by have := h.2; have := hN67.num; omega
                replace hb := hb.trans (hN67.below.mono hs)
                replace hk := hk.ch (Ch.of_below hN67.below) hK (fun _ h => h.elim)
                replace hK := Nat.le_trans hK (hN67.below.size)
                replace hs := Nat.le_trans hs (hN67.below.size)
                replace o_x2 := obj_below o_x2 hN67.below
                replace o_x4 := obj_below o_x4 hN67.below
                replace o_x5 := obj_below o_x5 hN67.below
                replace o_x6 := obj_below o_x6 hN67.below
                replace o_cb23 := obj_below o_cb23 hN67.below
                replace o_cb27 := obj_below o_cb27 hN67.below
                have o_it75 := hN67.here
                refine L_nil (thenQ_normal (W_block ?_))
                refine W_loop (fun m s0 w0 => ∃ (pos : Nat), (m = x.2.length - pos) ∧ (s0.ds = []) ∧ (s0.f 1 = (S b)) ∧ (s0.f 2 = (.pointer (some ⟨b1, 0, none⟩))) ∧ (s0.f 4 = (.pointer (some ⟨b4, 0, none⟩))) ∧ (s0.f 5 = (.pointer (some ⟨b10, 0, none⟩))) ∧ (s0.f 6 = (.pointer (some ⟨b15, 0, none⟩))) ∧ (s0.f 7 = (.int .i64 x.1)) ∧ (s0.f 8 = (S x.2)) ∧ (s0.f 75 = (.pointer (some ⟨b65, 0, none⟩))) ∧ (w0.heap[b1]? = some (.cells [(S a)].toArray 9 (0, 0))) ∧ (w0.heap[b4]? = some (.cells [(.bool false)].toArray 4 (0, 0))) ∧ (w0.heap[b10]? = some (.cells [(.int .i64 en)].toArray 3 (0, 0))) ∧ (w0.heap[b15]? = some (.cells [(.int .i64 ((n : Nat) : Int))].toArray 3 (0, 0))) ∧ (w0.heap[cb23]? = some (.cells [(S a)].toArray 9 (0, 0))) ∧ (w0.heap[cb27]? = some (.cells [(S a)].toArray 9 (0, 0))) ∧ (w0.heap[b65]? = some (.stringIter ⟨(x.2).toArray⟩ pos)) ∧ (Below w.heap.size w w0) ∧ (w.heap.size ≤ w0.heap.size) ∧ (Kp (w24.heap.size) K w28 w0) ∧ (K ≤ w0.heap.size) ∧ (pos ≤ x.2.length) ∧ (∃ pre, runesFrom x.2 0 = pre ++ runesFrom x.2 pos)) _ ⟨0, rfl, by kernel_rfl, by kernel_rfl, by kernel_rfl, by kernel_rfl, by kernel_rfl, by kernel_rfl, by kernel_rfl, by kernel_rfl, by kernel_rfl, o_x2, o_x4, o_x5, o_x6, o_cb23, o_cb27, o_it75, hb, hs, hk, hK, by omega, ⟨[], rfl⟩⟩ ?_
                rintro m68 s69 w70 ⟨pos, hm, hds, f_1, f_2, f_4, f_5, f_6, f_7, f_8, f_75, o_x2, o_x4, o_x5, o_x6, o_cb23, o_cb27, o_it75, hb, hs, hk, hK, j1, j2⟩
                refine W_set 1 _ f_1 (W_set 2 _ f_2 (W_set 4 _ f_4 (W_set 5 _ f_5 (W_set 6 _ f_6 (W_set 7 _ f_7 (W_set 8 _ f_8 (W_set 75 _ f_75 ?_)))))))
                clear f_1 f_2 f_4 f_5 f_6 f_7 f_8 f_75
                refine W_seq (W_region ?_)
                rcases Nat.lt_or_ge pos (x.2).length with lt_it75 | ge_it75
                · refine L_next x.2 b65 pos (by kernel_rfl) o_it75 lt_it75 ?_
                  intro c_it75 w71 ch_it75 hW72
                  replace hb := hb.trans (hW72.below g_it75)
                  replace hk := hk.ch (Ch.of_wrote hW72) hK (fun k e h => nv_it75 (e ▸ h))
                  replace hK := Nat.le_trans hK (Nat.le_of_eq hW72.size.symm)
                  replace hs := Nat.le_trans hs (Nat.le_of_eq hW72.size.symm)
                  have n_o_x2 := obj_wrote o_x2 hW72 (obj_ne o_x2 o_it75 (by simp))
                  have n_o_x4 := obj_wrote o_x4 hW72 (obj_ne o_x4 o_it75 (by simp))
                  have n_o_x5 := obj_wrote o_x5 hW72 (obj_ne o_x5 o_it75 (by simp))
                  have n_o_x6 := obj_wrote o_x6 hW72 (obj_ne o_x6 o_it75 (by simp))
                  have n_o_cb23 := obj_wrote o_cb23 hW72 (obj_ne o_cb23 o_it75 (by simp))
                  have n_o_cb27 := obj_wrote o_cb27 hW72 (obj_ne o_cb27 o_it75 (by simp))
                  replace o_x2 := n_o_x2; clear n_o_x2
                  replace o_x4 := n_o_x4; clear n_o_x4
                  replace o_x5 := n_o_x5; clear n_o_x5
                  replace o_x6 := n_o_x6; clear n_o_x6
                  replace o_cb23 := n_o_cb23; clear n_o_cb23
                  replace o_cb27 := n_o_cb27; clear n_o_cb27
                  replace o_it75 := hW72.here
                  have := dec_pos x.2 pos; have := dec_fits x.2 pos lt_it75; have := dec_le x.2 pos
                  have c_it75_0 : 0 ≤ c_it75 := by omega
                  have c_it75_1 : c_it75 ≤ 2147483647 := by omega
                  refine L_run (.bool true) (by kernel_rfl) (by kernel_rfl) (L_nil (thenQ_normal (W_seq (W_true (by kernel_rfl) (W_skip (thenQ_normal (W_block (W_seq (W_region (L_run (.int .i32 c_it75) (by kernel_rfl) (by kernel_rfl) (L_as (L_nil (thenQ_normal (W_seq (W_region (L_mv (L_call 13 [(.int .i32 c_it75)] (by kernel_rfl) (by kernel_rfl) (c_words_Blank c_it75 _ ) ?_)))))))))))))))))
                  rintro _ w73 ⟨rfl, hB74⟩
                  replace hb := hb.trans (hB74.mono hs)
                  replace hk := hk.ch (Ch.of_below hB74) hK (fun _ h => h.elim)
                  replace hK := Nat.le_trans hK (hB74.size)
                  replace hs := Nat.le_trans hs (hB74.size)
                  replace o_x2 := obj_below o_x2 hB74
                  replace o_x4 := obj_below o_x4 hB74
                  replace o_x5 := obj_below o_x5 hB74
                  replace o_x6 := obj_below o_x6 hB74
                  replace o_cb23 := obj_below o_cb23 hB74
                  replace o_cb27 := obj_below o_cb27 hB74
                  replace o_it75 := obj_below o_it75 hB74
                  refine put_split (blankB c_it75) ?_ ?_
                  · intro h76
                    exfalso; obtain ⟨pre2, j2⟩ := j2; have hq := hwf.2.2.2.2.2.2.2.2.1 c_it75 (by rw [j2, runesFrom_step lt_it75, ← ch_it75]; simp); rw [h76] at hq; cases hq
                  · intro h77
                    refine L_nil (thenQ_normal (W_false (by kernel_rfl) (W_skip (blkQ_normal ?_))))
                    refine thenQ_normal ⟨_, ?_, (pos + (dec x.2 pos).2), rfl, hds, by kernel_rfl, by kernel_rfl, by kernel_rfl, by kernel_rfl, by kernel_rfl, by kernel_rfl, by kernel_rfl, by kernel_rfl, o_x2, o_x4, o_x5, o_x6, o_cb23, o_cb27, o_it75, hb, hs, hk, hK, ?_, ?_⟩
                    · omega
                    · omega
                    · obtain ⟨pre, j2⟩ := j2; exact ⟨pre ++ [c_it75], by rw [j2, runesFrom_step lt_it75, ← ch_it75]; simp⟩
                · refine L_nextEnd x.2 b65 pos (by kernel_rfl) o_it75 ge_it75 (L_run (.bool false) (by kernel_rfl) (by kernel_rfl) (L_nil (thenQ_normal (W_seq (W_false (by kernel_rfl) (W_exit (thenQ_exit (thenQ_exit (blkQ_exit (thenQ_normal (W_seq (W_region (L_mv (L_mv (L_slen 9 x.2 rfl Try.underlying9 (by kernel_rfl) (L_arith x.1 (((x.2).length : Nat) : Int) (x.1 + (((x.2).length : Nat) : Int)) rfl (by kernel_rfl) (by kernel_rfl) (wrap_i64 _ (by simp only [arithZ]; omega) (by simp only [arithZ]; omega)) (L_store b10 0 (.int .i64 (x.1 + (((x.2).length : Nat) : Int))) [(.int .i64 en)] [(.int .i64 (x.1 + (((x.2).length : Nat) : Int)))] 3 (by kernel_rfl) (by kernel_rfl) rfl (by kernel_rfl) o_x5 (by simp) rfl ?_)))))))))))))))))
                  intro w78 hW79
                  replace hb := hb.trans (hW79.below g_x5)
                  replace hk := hk.ch (Ch.of_wrote hW79) hK (fun k e h => nv_x5 (e ▸ h))
                  replace hK := Nat.le_trans hK (Nat.le_of_eq hW79.size.symm)
                  replace hs := Nat.le_trans hs (Nat.le_of_eq hW79.size.symm)
                  have n_o_x2 := obj_wrote o_x2 hW79 (obj_ne o_x2 o_x5 (by simp))
                  have n_o_x4 := obj_wrote o_x4 hW79 (obj_ne o_x4 o_x5 (by simp))
                  have n_o_x6 := obj_wrote o_x6 hW79 ne_x6_x5
                  have n_o_cb23 := obj_wrote o_cb23 hW79 (obj_ne o_cb23 o_x5 (by simp))
                  have n_o_cb27 := obj_wrote o_cb27 hW79 (obj_ne o_cb27 o_x5 (by simp))
                  have n_o_it75 := obj_wrote o_it75 hW79 (obj_ne o_it75 o_x5 (by simp))
                  replace o_x2 := n_o_x2; clear n_o_x2
                  replace o_x4 := n_o_x4; clear n_o_x4
                  replace o_x6 := n_o_x6; clear n_o_x6
                  replace o_cb23 := n_o_cb23; clear n_o_cb23
                  replace o_cb27 := n_o_cb27; clear n_o_cb27
                  replace o_it75 := n_o_it75; clear n_o_it75
                  replace o_x5 := hW79.here
                  refine L_nil (thenQ_normal (W_region (L_load b15 0 (.int .i64 ((n : Nat) : Int)) (by kernel_rfl) (by kernel_rfl) (cell_obj o_x6 rfl) (L_addN n 1 (by omega) (by kernel_rfl) (by kernel_rfl) (L_store b15 0 (.int .i64 (((n + 1) : Nat) : Int)) [(.int .i64 ((n : Nat) : Int))] [(.int .i64 (((n + 1) : Nat) : Int))] 3 (by kernel_rfl) (by kernel_rfl) rfl (by kernel_rfl) o_x6 (by simp) rfl ?_)))))
                  intro w80 hW81
                  replace hb := hb.trans (hW81.below g_x6)
                  replace hk := hk.ch (Ch.of_wrote hW81) hK (fun k e h => nv_x6 (e ▸ h))
                  replace hK := Nat.le_trans hK (Nat.le_of_eq hW81.size.symm)
                  replace hs := Nat.le_trans hs (Nat.le_of_eq hW81.size.symm)
                  have n_o_x2 := obj_wrote o_x2 hW81 (obj_ne o_x2 o_x6 (by simp))
                  have n_o_x4 := obj_wrote o_x4 hW81 (obj_ne o_x4 o_x6 (by simp))
                  have n_o_x5 := obj_wrote o_x5 hW81 ne_x5_x6
                  have n_o_cb23 := obj_wrote o_cb23 hW81 (obj_ne o_cb23 o_x6 (by simp))
                  have n_o_cb27 := obj_wrote o_cb27 hW81 (obj_ne o_cb27 o_x6 (by simp))
                  have n_o_it75 := obj_wrote o_it75 hW81 (obj_ne o_it75 o_x6 (by simp))
                  replace o_x2 := n_o_x2; clear n_o_x2
                  replace o_x4 := n_o_x4; clear n_o_x4
                  replace o_x5 := n_o_x5; clear n_o_x5
                  replace o_cb23 := n_o_cb23; clear n_o_cb23
                  replace o_cb27 := n_o_cb27; clear n_o_cb27
                  replace o_it75 := n_o_it75; clear n_o_it75
                  replace o_x6 := hW81.here
                  refine L_nil (blkQ_normal ?_)
                  refine round_normal hk o_cb27 ⟨(x.1 + (((x.2).length : Nat) : Int)), (n + 1), o_x2, o_x4, o_x5, o_x6, o_cb23, o_cb27, hb, ?_, ?_⟩
                  · rw [hwf.2.2.2.2.2.2.2.2.2]; omega
                  · simp [pn]
            · intro h82
              exfalso; rw [hen] at h82; have hq : blankT (sl a (endOf pre) x.1.toNat) = true := hwf.2.2.2.2.2.1; exact Bool.false_ne_true (h82.symm.trans hq)
  · intro K A hi hsz o_D0
    obtain ⟨en, n, o_x2, o_x4, o_x5, o_x6, o_cb23, o_cb27, hb, pe, pn⟩ := hi
    have ne_x2_D0 : b1 ≠ w24.heap.size := Nat.ne_of_lt lt_x2_0
    have ne_D0_x2 := ne_x2_D0.symm
    have ne_x4_D0 : b4 ≠ w24.heap.size := Nat.ne_of_lt lt_x4_0
    have ne_D0_x4 := ne_x4_D0.symm
    have ne_x5_D0 : b10 ≠ w24.heap.size := Nat.ne_of_lt lt_x5_0
    have ne_D0_x5 := ne_x5_D0.symm
    have ne_x6_D0 : b15 ≠ w24.heap.size := Nat.ne_of_lt lt_x6_0
    have ne_D0_x6 := ne_x6_D0.symm
    have ne_cb23_D0 : cb23 ≠ w24.heap.size := Nat.ne_of_lt lt_cb23_0
    have ne_D0_cb23 := ne_cb23_D0.symm
    have ne_cb27_D0 : cb27 ≠ w24.heap.size := Nat.ne_of_lt lt_cb27_0
    have ne_D0_cb27 := ne_cb27_D0.symm
    have hs : w.heap.size ≤ _ := hb.size
    refine blkQ_normal (thenQ_normal (W_seq (W_seq (W_region (L_load b1 0 (S a) (by kernel_rfl) (by kernel_rfl) (cell_obj o_x2 rfl) (L_load b10 0 (.int .i64 en) (by kernel_rfl) (by kernel_rfl) (cell_obj o_x5 rfl) (L_ssfrom a ((en).toNat) Try.underlying9 (by kernel_rfl) (toNat_val en .i64 (by kernel_rfl) (by omega)) (by first | omega | (simp only [List.length_drop, List.length_take, List.length_append, List.length_cons, List.length_nil]; omega)) (L_call 26 [(S (List.drop ((en).toNat) a))] (by kernel_rfl) (by kernel_rfl) (c_furrowlaw05_blank (List.drop ((en).toNat) a) _ (by first | omega | (simp only [List.length_drop, List.length_take, List.length_append, List.length_cons, List.length_nil]; omega))) ?_))))))))
    rintro _ w83 ⟨rfl, hB84⟩
    replace hb := hb.trans (hB84.mono hs)
    replace hs := Nat.le_trans hs (hB84.size)
    replace o_x2 := obj_below o_x2 hB84
    replace o_x4 := obj_below o_x4 hB84
    replace o_x5 := obj_below o_x5 hB84
    replace o_x6 := obj_below o_x6 hB84
    replace o_cb23 := obj_below o_cb23 hB84
    replace o_cb27 := obj_below o_cb27 hB84
    replace o_D0 := obj_below o_D0 hB84
    refine put_split (blankT (List.drop ((en).toNat) a)) ?_ ?_
    · intro h86
      refine L_not true (by kernel_rfl) (L_nil (thenQ_normal (W_false (by kernel_rfl) (W_skip (thenQ_normal (W_seq (W_region (L_new (fun b => .pointer (some ⟨b, 0, none⟩)) (.cells [(.slice none 0 0)].toArray 43 (0, 0)) (by kernel_rfl) (by kernel_rfl) ?_))))))))
      intro b87 w88 hN89
      have ne_x2_x11 : b1 ≠ b87 := by have := obj_lt o_x2; have := hN89.num; omega
      have ne_x11_x2 := ne_x2_x11.symm
      have ne_x4_x11 : b4 ≠ b87 := by have := obj_lt o_x4; have := hN89.num; omega
      have ne_x11_x4 := ne_x4_x11.symm
      have ne_x5_x11 : b10 ≠ b87 := by have := obj_lt o_x5; have := hN89.num; omega
      have ne_x11_x5 := ne_x5_x11.symm
      have ne_x6_x11 : b15 ≠ b87 := by have := obj_lt o_x6; have := hN89.num; omega
      have ne_x11_x6 := ne_x6_x11.symm
      have ne_cb23_x11 : cb23 ≠ b87 := by have := obj_lt o_cb23; have := hN89.num; omega
      have ne_x11_cb23 := ne_cb23_x11.symm
      have ne_cb27_x11 : cb27 ≠ b87 := by have := obj_lt o_cb27; have := hN89.num; omega
      have ne_x11_cb27 := ne_cb27_x11.symm
      have ne_D0_x11 : w24.heap.size ≠ b87 := by have := obj_lt o_D0; have := hN89.num; omega
      have ne_x11_D0 := ne_D0_x11.symm
      have g_x11 : w.heap.size ≤ b87 := by rw [hN89.num]; exact hs
      replace hb := hb.trans (hN89.below.mono hs)
      replace hs := Nat.le_trans hs (hN89.below.size)
      replace o_x2 := obj_below o_x2 hN89.below
      replace o_x4 := obj_below o_x4 hN89.below
      replace o_x5 := obj_below o_x5 hN89.below
      replace o_x6 := obj_below o_x6 hN89.below
      replace o_cb23 := obj_below o_cb23 hN89.below
      replace o_cb27 := obj_below o_cb27 hN89.below
      replace o_D0 := obj_below o_D0 hN89.below
      have o_x11 := hN89.here
      refine L_new (fun b => .pointer (some ⟨b, 0, none⟩)) (.cells [(.slice none 0 0)].toArray 43 (0, 0)) (by kernel_rfl) (by kernel_rfl) ?_
      intro b90 w91 hN92
      have ne_x2_x12 : b1 ≠ b90 := by have := obj_lt o_x2; have := hN92.num; omega
      have ne_x12_x2 := ne_x2_x12.symm
      have ne_x4_x12 : b4 ≠ b90 := by have := obj_lt o_x4; have := hN92.num; omega
      have ne_x12_x4 := ne_x4_x12.symm
      have ne_x5_x12 : b10 ≠ b90 := by have := obj_lt o_x5; have := hN92.num; omega
      have ne_x12_x5 := ne_x5_x12.symm
      have ne_x6_x12 : b15 ≠ b90 := by have := obj_lt o_x6; have := hN92.num; omega
      have ne_x12_x6 := ne_x6_x12.symm
      have ne_cb23_x12 : cb23 ≠ b90 := by have := obj_lt o_cb23; have := hN92.num; omega
      have ne_x12_cb23 := ne_cb23_x12.symm
      have ne_cb27_x12 : cb27 ≠ b90 := by have := obj_lt o_cb27; have := hN92.num; omega
      have ne_x12_cb27 := ne_cb27_x12.symm
      have ne_D0_x12 : w24.heap.size ≠ b90 := by have := obj_lt o_D0; have := hN92.num; omega
      have ne_x12_D0 := ne_D0_x12.symm
      have ne_x11_x12 : b87 ≠ b90 := by have := obj_lt o_x11; have := hN92.num; omega
      have ne_x12_x11 := ne_x11_x12.symm
      have g_x12 : w.heap.size ≤ b90 := by rw [hN92.num]; exact hs
      replace hb := hb.trans (hN92.below.mono hs)
      replace hs := Nat.le_trans hs (hN92.below.size)
      replace o_x2 := obj_below o_x2 hN92.below
      replace o_x4 := obj_below o_x4 hN92.below
      replace o_x5 := obj_below o_x5 hN92.below
      replace o_x6 := obj_below o_x6 hN92.below
      replace o_cb23 := obj_below o_cb23 hN92.below
      replace o_cb27 := obj_below o_cb27 hN92.below
      replace o_D0 := obj_below o_D0 hN92.below
      replace o_x11 := obj_below o_x11 hN92.below
      have o_x12 := hN92.here
      refine L_nil (thenQ_normal (W_seq (W_seq (W_region (L_load b1 0 (S a) (by kernel_rfl) (by kernel_rfl) (cell_obj o_x2 rfl) (L_call 17 [(S a)] (by kernel_rfl) (by kernel_rfl) (c_words_Each a _ ) ?_))))))
      rintro _ w93 ⟨cb96, rfl, o_cb96, g_cb96, hB94⟩
      have ne_x2_cb96 : b1 ≠ cb96 := by have := obj_lt o_x2; omega
      have ne_cb96_x2 := ne_x2_cb96.symm
      have ne_x4_cb96 : b4 ≠ cb96 := by have := obj_lt o_x4; omega
      have ne_cb96_x4 := ne_x4_cb96.symm
      have ne_x5_cb96 : b10 ≠ cb96 := by have := obj_lt o_x5; omega
      have ne_cb96_x5 := ne_x5_cb96.symm
      have ne_x6_cb96 : b15 ≠ cb96 := by have := obj_lt o_x6; omega
      have ne_cb96_x6 := ne_x6_cb96.symm
      have ne_cb23_cb96 : cb23 ≠ cb96 := by have := obj_lt o_cb23; omega
      have ne_cb96_cb23 := ne_cb23_cb96.symm
      have ne_cb27_cb96 : cb27 ≠ cb96 := by have := obj_lt o_cb27; omega
      have ne_cb96_cb27 := ne_cb27_cb96.symm
      have ne_D0_cb96 : w24.heap.size ≠ cb96 := by have := obj_lt o_D0; omega
      have ne_cb96_D0 := ne_D0_cb96.symm
      have ne_x11_cb96 : b87 ≠ cb96 := by have := obj_lt o_x11; omega
      have ne_cb96_x11 := ne_x11_cb96.symm
      have ne_x12_cb96 : b90 ≠ cb96 := by have := obj_lt o_x12; omega
      have ne_cb96_x12 := ne_x12_cb96.symm
      replace g_cb96 := Nat.le_trans hs g_cb96
      replace hb := hb.trans (hB94.mono hs)
      replace hs := Nat.le_trans hs (hB94.size)
      replace o_x2 := obj_below o_x2 hB94
      replace o_x4 := obj_below o_x4 hB94
      replace o_x5 := obj_below o_x5 hB94
      replace o_x6 := obj_below o_x6 hB94
      replace o_cb23 := obj_below o_cb23 hB94
      replace o_cb27 := obj_below o_cb27 hB94
      replace o_D0 := obj_below o_D0 hB94
      replace o_x11 := obj_below o_x11 hB94
      replace o_x12 := obj_below o_x12 hB94
      refine L_run (.bool false) (by kernel_rfl) (by kernel_rfl) (L_nil (thenQ_normal (W_false (by kernel_rfl) (W_skip (thenQ_normal (W_seq (W_seq (W_region (L_load b1 0 (S a) (by kernel_rfl) (by kernel_rfl) (cell_obj o_x2 rfl) (L_call 17 [(S a)] (by kernel_rfl) (by kernel_rfl) (c_words_Each a _ ) ?_))))))))))
      rintro _ w97 ⟨cb100, rfl, o_cb100, g_cb100, hB98⟩
      have ne_x2_cb100 : b1 ≠ cb100 := by have := obj_lt o_x2; omega
      have ne_cb100_x2 := ne_x2_cb100.symm
      have ne_x4_cb100 : b4 ≠ cb100 := by have := obj_lt o_x4; omega
      have ne_cb100_x4 := ne_x4_cb100.symm
      have ne_x5_cb100 : b10 ≠ cb100 := by have := obj_lt o_x5; omega
      have ne_cb100_x5 := ne_x5_cb100.symm
      have ne_x6_cb100 : b15 ≠ cb100 := by have := obj_lt o_x6; omega
      have ne_cb100_x6 := ne_x6_cb100.symm
      have ne_cb23_cb100 : cb23 ≠ cb100 := by have := obj_lt o_cb23; omega
      have ne_cb100_cb23 := ne_cb23_cb100.symm
      have ne_cb27_cb100 : cb27 ≠ cb100 := by have := obj_lt o_cb27; omega
      have ne_cb100_cb27 := ne_cb27_cb100.symm
      have ne_D0_cb100 : w24.heap.size ≠ cb100 := by have := obj_lt o_D0; omega
      have ne_cb100_D0 := ne_D0_cb100.symm
      have ne_x11_cb100 : b87 ≠ cb100 := by have := obj_lt o_x11; omega
      have ne_cb100_x11 := ne_x11_cb100.symm
      have ne_x12_cb100 : b90 ≠ cb100 := by have := obj_lt o_x12; omega
      have ne_cb100_x12 := ne_x12_cb100.symm
      have ne_cb96_cb100 : cb96 ≠ cb100 := by have := obj_lt o_cb96; omega
      have ne_cb100_cb96 := ne_cb96_cb100.symm
      replace g_cb100 := Nat.le_trans hs g_cb100
      replace hb := hb.trans (hB98.mono hs)
      replace hs := Nat.le_trans hs (hB98.size)
      replace o_x2 := obj_below o_x2 hB98
      replace o_x4 := obj_below o_x4 hB98
      replace o_x5 := obj_below o_x5 hB98
      replace o_x6 := obj_below o_x6 hB98
      replace o_cb23 := obj_below o_cb23 hB98
      replace o_cb27 := obj_below o_cb27 hB98
      replace o_D0 := obj_below o_D0 hB98
      replace o_x11 := obj_below o_x11 hB98
      replace o_x12 := obj_below o_x12 hB98
      replace o_cb96 := obj_below o_cb96 hB98
      refine L_nil (thenQ_normal (W_block ?_))
      have lt_x2_1 : b1 < w97.heap.size := obj_lt o_x2
      have lt_x4_1 : b4 < w97.heap.size := obj_lt o_x4
      have lt_x5_1 : b10 < w97.heap.size := obj_lt o_x5
      have lt_x6_1 : b15 < w97.heap.size := obj_lt o_x6
      have lt_cb23_1 : cb23 < w97.heap.size := obj_lt o_cb23
      have lt_cb27_1 : cb27 < w97.heap.size := obj_lt o_cb27
      have lt_D0_1 : w24.heap.size < w97.heap.size := obj_lt o_D0
      have lt_x11_1 : b87 < w97.heap.size := obj_lt o_x11
      have lt_x12_1 : b90 < w97.heap.size := obj_lt o_x12
      have lt_cb96_1 : cb96 < w97.heap.size := obj_lt o_cb96
      have lt_cb100_1 : cb100 < w97.heap.size := obj_lt o_cb100
      have hs_1 := hs
      have hb_1 := hb
      refine W_range 40 [(.pointer (some ⟨cb100, 0, none⟩))] (wordsOf a) (by kernel_rfl) (fun _ _ => rfl) (it_words_Each_1 cb100 a (by first | omega | (simp only [List.length_drop, List.length_take, List.length_append, List.length_cons, List.length_nil]; omega))) o_cb100 ((fun D A B h hc hd => obj_ch h hc (fun h => Nat.not_lt.2 (hd _ h) lt_cb100_1))) (by intro x; rfl) (fun K pre A => ∃ (B : List (List UInt8)) (v_x12_0 : Value), (A.heap[b1]? = some (.cells [(S a)].toArray 9 (0, 0))) ∧ (A.heap[b4]? = some (.cells [(.bool false)].toArray 4 (0, 0))) ∧ (A.heap[b10]? = some (.cells [(.int .i64 en)].toArray 3 (0, 0))) ∧ (A.heap[b15]? = some (.cells [(.int .i64 ((n : Nat) : Int))].toArray 3 (0, 0))) ∧ (A.heap[cb23]? = some (.cells [(S a)].toArray 9 (0, 0))) ∧ (A.heap[cb27]? = some (.cells [(S a)].toArray 9 (0, 0))) ∧ (A.heap[w24.heap.size]? = some (.deferred (some []))) ∧ (A.heap[b87]? = some (.cells [(.slice none 0 0)].toArray 43 (0, 0))) ∧ (A.heap[b90]? = some (.cells [v_x12_0].toArray 43 (0, 0))) ∧ (A.heap[cb96]? = some (.cells [(S a)].toArray 9 (0, 0))) ∧ (A.heap[cb100]? = some (.cells [(S a)].toArray 9 (0, 0))) ∧ (Row A w.heap.size 9 1 encStr v_x12_0 B) ∧ (∀ g, Value.ownBlock v_x12_0 = some g → ¬ Iv w97.heap.size K g) ∧ (Value.ownBlock v_x12_0 ≠ some b1) ∧ (Value.ownBlock v_x12_0 ≠ some cb23) ∧ (Value.ownBlock v_x12_0 ≠ some cb27) ∧ (Value.ownBlock v_x12_0 ≠ some cb96) ∧ (Value.ownBlock v_x12_0 ≠ some cb100) ∧ (Below w.heap.size w A) ∧ (B = pre.map (·.2))) (fun K c pre A => False) ?_ ?_ ?_ ?_ ?_ ?_
      · intro A hA
        exact ⟨[], (.slice none 0 0), obj_below o_x2 hA, obj_below o_x4 hA, obj_below o_x5 hA, obj_below o_x6 hA, obj_below o_cb23 hA, obj_below o_cb27 hA, obj_below o_D0 hA, obj_below o_x11 hA, obj_below o_x12 hA, obj_below o_cb96 hA, obj_below o_cb100 hA, Row.nil _ _ _ _ _, nr_nil _ _, (by simp [Value.ownBlock]), (by simp [Value.ownBlock]), (by simp [Value.ownBlock]), (by simp [Value.ownBlock]), (by simp [Value.ownBlock]), hb.trans (hA.mono hs), by rfl⟩
      · rintro K pre A B ⟨B, v_x12_0, o_x2, o_x4, o_x5, o_x6, o_cb23, o_cb27, o_D0, o_x11, o_x12, o_cb96, o_cb100, r_x12_0, nr_r_x12_0, nb_o_x2_r_x12_0, nb_o_cb23_r_x12_0, nb_o_cb27_r_x12_0, nb_o_cb96_r_x12_0, nb_o_cb100_r_x12_0, hb, pb⟩ hc
        exact ⟨B, v_x12_0, obj_ch o_x2 hc (fun h => Nat.not_lt.2 h.1 lt_x2_1), obj_ch o_x4 hc (fun h => Nat.not_lt.2 h.1 lt_x4_1), obj_ch o_x5 hc (fun h => Nat.not_lt.2 h.1 lt_x5_1), obj_ch o_x6 hc (fun h => Nat.not_lt.2 h.1 lt_x6_1), obj_ch o_cb23 hc (fun h => Nat.not_lt.2 h.1 lt_cb23_1), obj_ch o_cb27 hc (fun h => Nat.not_lt.2 h.1 lt_cb27_1), obj_ch o_D0 hc (fun h => Nat.not_lt.2 h.1 lt_D0_1), obj_ch o_x11 hc (fun h => Nat.not_lt.2 h.1 lt_x11_1), obj_ch o_x12 hc (fun h => Nat.not_lt.2 h.1 lt_x12_1), obj_ch o_cb96 hc (fun h => Nat.not_lt.2 h.1 lt_cb96_1), obj_ch o_cb100 hc (fun h => Nat.not_lt.2 h.1 lt_cb100_1), r_x12_0.ch hc nr_r_x12_0, nr_r_x12_0, nb_o_x2_r_x12_0, nb_o_cb23_r_x12_0, nb_o_cb27_r_x12_0, nb_o_cb96_r_x12_0, nb_o_cb100_r_x12_0, hc.below hb hb.size (fun k h => Nat.le_trans hs_1 h.1), pb⟩
      · intro K c _ A B h hc; exact h.elim
      · intro l K pre x A hi hN hK0 hK hpre
        obtain ⟨B, v_x12_0, o_x2, o_x4, o_x5, o_x6, o_cb23, o_cb27, o_D0, o_x11, o_x12, o_cb96, o_cb100, r_x12_0, nr_r_x12_0, nb_o_x2_r_x12_0, nb_o_cb23_r_x12_0, nb_o_cb27_r_x12_0, nb_o_cb96_r_x12_0, nb_o_cb100_r_x12_0, hb, pb⟩ := hi
        have hs := hb.size
        have hk := Kp.refl (w97.heap.size) K A
        have nv_x2 : ¬ Iv (w97.heap.size) K b1 := fun h => Nat.not_lt.2 h.1 lt_x2_1
        have nv_x4 : ¬ Iv (w97.heap.size) K b4 := fun h => Nat.not_lt.2 h.1 lt_x4_1
        have nv_x5 : ¬ Iv (w97.heap.size) K b10 := fun h => Nat.not_lt.2 h.1 lt_x5_1
        have nv_x6 : ¬ Iv (w97.heap.size) K b15 := fun h => Nat.not_lt.2 h.1 lt_x6_1
        have nv_cb23 : ¬ Iv (w97.heap.size) K cb23 := fun h => Nat.not_lt.2 h.1 lt_cb23_1
        have nv_cb27 : ¬ Iv (w97.heap.size) K cb27 := fun h => Nat.not_lt.2 h.1 lt_cb27_1
        have nv_D0 : ¬ Iv (w97.heap.size) K w24.heap.size := fun h => Nat.not_lt.2 h.1 lt_D0_1
        have nv_x11 : ¬ Iv (w97.heap.size) K b87 := fun h => Nat.not_lt.2 h.1 lt_x11_1
        have nv_x12 : ¬ Iv (w97.heap.size) K b90 := fun h => Nat.not_lt.2 h.1 lt_x12_1
        have nv_cb96 : ¬ Iv (w97.heap.size) K cb96 := fun h => Nat.not_lt.2 h.1 lt_cb96_1
        have nv_cb100 : ¬ Iv (w97.heap.size) K cb100 := fun h => Nat.not_lt.2 h.1 lt_cb100_1
        replace o_cb100 := hN
        have hwl := words_len hpre
        have hta := texts_len a
        have hBl : B.length = pre.length := by rw [pb]; simp
        refine W_region (L_as (L_nil ?_))
        refine thenQ_normal ⟨hk, ?_⟩
        intro w101 hc102
        replace o_x2 := obj_ch o_x2 hc102 nv_x2
        replace o_x4 := obj_ch o_x4 hc102 nv_x4
        replace o_x5 := obj_ch o_x5 hc102 nv_x5
        replace o_x6 := obj_ch o_x6 hc102 nv_x6
        replace o_cb23 := obj_ch o_cb23 hc102 nv_cb23
        replace o_cb27 := obj_ch o_cb27 hc102 nv_cb27
        replace o_D0 := obj_ch o_D0 hc102 nv_D0
        replace o_x11 := obj_ch o_x11 hc102 nv_x11
        replace o_x12 := obj_ch o_x12 hc102 nv_x12
        replace o_cb96 := obj_ch o_cb96 hc102 nv_cb96
        replace o_cb100 := obj_ch o_cb100 hc102 nv_cb100
        replace r_x12_0 := r_x12_0.ch hc102 nr_r_x12_0
        replace hb := hc102.below hb hs (fun k h => Nat.le_trans hs_1 h.1)
        replace hs := hb.size
        replace hK := Nat.le_trans hK hc102.size
        replace hk := Kp.refl (w97.heap.size) K w101
        refine W_block (W_region (L_load b90 0 v_x12_0 (by kernel_rfl) (by kernel_rfl) (cell_obj o_x12 rfl) (L_mv (L_app el43 w.heap.size v_x12_0 B x.2 hs r_x12_0 (by first | omega | (simp [*]; omega)) (by kernel_rfl) rfl rfl (by kernel_rfl) rfl (by kernel_rfl) (by kernel_rfl) ?_))))
        intro v103 w104 hr105 hg106 how107
        have nr2 := nr_app how107 nr_r_x12_0 hK
        have nc_o_x2 := ownb_app how107 nb_o_x2_r_x12_0 (obj_lt o_x2)
        have nc_o_cb23 := ownb_app how107 nb_o_cb23_r_x12_0 (obj_lt o_cb23)
        have nc_o_cb27 := ownb_app how107 nb_o_cb27_r_x12_0 (obj_lt o_cb27)
        have nc_o_cb96 := ownb_app how107 nb_o_cb96_r_x12_0 (obj_lt o_cb96)
        have nc_o_cb100 := ownb_app how107 nb_o_cb100_r_x12_0 (obj_lt o_cb100)
        replace hb := hb.grown hg106 hs (fun k hk => (World.ownsRow.lt r_x12_0 k hk).1)
        replace hk := hk.ch (Ch.of_grown hg106) hK (fun k e => nr_r_x12_0 k e)
        replace hK := Nat.le_trans hK (hg106.size)
        replace hs := Nat.le_trans hs (hg106.size)
        have n_o_x2 := obj_grown o_x2 hg106 nb_o_x2_r_x12_0
        have n_o_x4 := obj_grown o_x4 hg106 (r_x12_0.ne o_x4 (by simp))
        have n_o_x5 := obj_grown o_x5 hg106 (r_x12_0.ne o_x5 (by simp))
        have n_o_x6 := obj_grown o_x6 hg106 (r_x12_0.ne o_x6 (by simp))
        have n_o_cb23 := obj_grown o_cb23 hg106 nb_o_cb23_r_x12_0
        have n_o_cb27 := obj_grown o_cb27 hg106 nb_o_cb27_r_x12_0
        have n_o_D0 := obj_grown o_D0 hg106 (r_x12_0.ne o_D0 (by simp))
        have n_o_x11 := obj_grown o_x11 hg106 (r_x12_0.ne o_x11 (by simp))
        have n_o_x12 := obj_grown o_x12 hg106 (r_x12_0.ne o_x12 (by simp))
        have n_o_cb96 := obj_grown o_cb96 hg106 nb_o_cb96_r_x12_0
        have n_o_cb100 := obj_grown o_cb100 hg106 nb_o_cb100_r_x12_0
        replace o_x2 := n_o_x2; clear n_o_x2
        replace o_x4 := n_o_x4; clear n_o_x4
        replace o_x5 := n_o_x5; clear n_o_x5
        replace o_x6 := n_o_x6; clear n_o_x6
        replace o_cb23 := n_o_cb23; clear n_o_cb23
        replace o_cb27 := n_o_cb27; clear n_o_cb27
        replace o_D0 := n_o_D0; clear n_o_D0
        replace o_x11 := n_o_x11; clear n_o_x11
        replace o_x12 := n_o_x12; clear n_o_x12
        replace o_cb96 := n_o_cb96; clear n_o_cb96
        replace o_cb100 := n_o_cb100; clear n_o_cb100
        have nb_o_x2_r_x12_0 := nc_o_x2
        have nb_o_cb23_r_x12_0 := nc_o_cb23
        have nb_o_cb27_r_x12_0 := nc_o_cb27
        have nb_o_cb96_r_x12_0 := nc_o_cb96
        have nb_o_cb100_r_x12_0 := nc_o_cb100
        replace r_x12_0 := hr105
        have nr_r_x12_0 := nr2; clear nr2
        refine L_store b90 0 v103 [v_x12_0] [v103] 43 (by kernel_rfl) (by kernel_rfl) r_x12_0.one (by kernel_rfl) o_x12 (by simp) rfl ?_
        intro w108 hW109
        replace hb := hb.trans (hW109.below g_x12)
        replace hk := hk.ch (Ch.of_wrote hW109) hK (fun k e h => nv_x12 (e ▸ h))
        replace hK := Nat.le_trans hK (Nat.le_of_eq hW109.size.symm)
        replace hs := Nat.le_trans hs (Nat.le_of_eq hW109.size.symm)
        have n_o_x2 := obj_wrote o_x2 hW109 (obj_ne o_x2 o_x12 (by simp))
        have n_o_x4 := obj_wrote o_x4 hW109 (obj_ne o_x4 o_x12 (by simp))
        have n_o_x5 := obj_wrote o_x5 hW109 (obj_ne o_x5 o_x12 (by simp))
        have n_o_x6 := obj_wrote o_x6 hW109 (obj_ne o_x6 o_x12 (by simp))
        have n_o_cb23 := obj_wrote o_cb23 hW109 (obj_ne o_cb23 o_x12 (by simp))
        have n_o_cb27 := obj_wrote o_cb27 hW109 (obj_ne o_cb27 o_x12 (by simp))
        have n_o_D0 := obj_wrote o_D0 hW109 (obj_ne o_D0 o_x12 (by simp))
        have n_o_x11 := obj_wrote o_x11 hW109 ne_x11_x12
        have n_o_cb96 := obj_wrote o_cb96 hW109 (obj_ne o_cb96 o_x12 (by simp))
        have n_o_cb100 := obj_wrote o_cb100 hW109 (obj_ne o_cb100 o_x12 (by simp))
        have n_r_x12_0 := r_x12_0.wrote hW109 (r_x12_0.ne o_x12 (by simp))
        replace o_x2 := n_o_x2; clear n_o_x2
        replace o_x4 := n_o_x4; clear n_o_x4
        replace o_x5 := n_o_x5; clear n_o_x5
        replace o_x6 := n_o_x6; clear n_o_x6
        replace o_cb23 := n_o_cb23; clear n_o_cb23
        replace o_cb27 := n_o_cb27; clear n_o_cb27
        replace o_D0 := n_o_D0; clear n_o_D0
        replace o_x11 := n_o_x11; clear n_o_x11
        replace o_cb96 := n_o_cb96; clear n_o_cb96
        replace o_cb100 := n_o_cb100; clear n_o_cb100
        replace r_x12_0 := n_r_x12_0; clear n_r_x12_0
        replace o_x12 := hW109.here
        refine L_nil (blkQ_normal ?_)
        refine round_normal hk o_cb100 ⟨(B ++ [x.2]), v103, o_x2, o_x4, o_x5, o_x6, o_cb23, o_cb27, o_D0, o_x11, o_x12, o_cb96, o_cb100, r_x12_0, nr_r_x12_0, nb_o_x2_r_x12_0, nb_o_cb23_r_x12_0, nb_o_cb27_r_x12_0, nb_o_cb96_r_x12_0, nb_o_cb100_r_x12_0, hb, ?_⟩
        · rw [pb]; simp
      · intro K A hi hsz o_D1
        obtain ⟨B, v_x12_0, o_x2, o_x4, o_x5, o_x6, o_cb23, o_cb27, o_D0, o_x11, o_x12, o_cb96, o_cb100, r_x12_0, nr_r_x12_0, nb_o_x2_r_x12_0, nb_o_cb23_r_x12_0, nb_o_cb27_r_x12_0, nb_o_cb96_r_x12_0, nb_o_cb100_r_x12_0, hb, pb⟩ := hi
        have ne_x2_D1 : b1 ≠ w97.heap.size := Nat.ne_of_lt lt_x2_1
        have ne_D1_x2 := ne_x2_D1.symm
        have ne_x4_D1 : b4 ≠ w97.heap.size := Nat.ne_of_lt lt_x4_1
        have ne_D1_x4 := ne_x4_D1.symm
        have ne_x5_D1 : b10 ≠ w97.heap.size := Nat.ne_of_lt lt_x5_1
        have ne_D1_x5 := ne_x5_D1.symm
        have ne_x6_D1 : b15 ≠ w97.heap.size := Nat.ne_of_lt lt_x6_1
        have ne_D1_x6 := ne_x6_D1.symm
        have ne_cb23_D1 : cb23 ≠ w97.heap.size := Nat.ne_of_lt lt_cb23_1
        have ne_D1_cb23 := ne_cb23_D1.symm
        have ne_cb27_D1 : cb27 ≠ w97.heap.size := Nat.ne_of_lt lt_cb27_1
        have ne_D1_cb27 := ne_cb27_D1.symm
        have ne_D0_D1 : w24.heap.size ≠ w97.heap.size := Nat.ne_of_lt lt_D0_1
        have ne_D1_D0 := ne_D0_D1.symm
        have ne_x11_D1 : b87 ≠ w97.heap.size := Nat.ne_of_lt lt_x11_1
        have ne_D1_x11 := ne_x11_D1.symm
        have ne_x12_D1 : b90 ≠ w97.heap.size := Nat.ne_of_lt lt_x12_1
        have ne_D1_x12 := ne_x12_D1.symm
        have ne_cb96_D1 : cb96 ≠ w97.heap.size := Nat.ne_of_lt lt_cb96_1
        have ne_D1_cb96 := ne_cb96_D1.symm
        have ne_cb100_D1 : cb100 ≠ w97.heap.size := Nat.ne_of_lt lt_cb100_1
        have ne_D1_cb100 := ne_cb100_D1.symm
        have hs : w.heap.size ≤ _ := hb.size
        refine blkQ_normal (thenQ_normal (W_seq (W_seq (W_region (L_mv (L_call 17 [(S b)] (by kernel_rfl) (by kernel_rfl) (c_words_Each b _ ) ?_))))))
        rintro _ w110 ⟨cb113, rfl, o_cb113, g_cb113, hB111⟩
        have ne_x2_cb113 : b1 ≠ cb113 := by have := obj_lt o_x2; omega
        have ne_cb113_x2 := ne_x2_cb113.symm
        have ne_x4_cb113 : b4 ≠ cb113 := by have := obj_lt o_x4; omega
        have ne_cb113_x4 := ne_x4_cb113.symm
        have ne_x5_cb113 : b10 ≠ cb113 := by have := obj_lt o_x5; omega
        have ne_cb113_x5 := ne_x5_cb113.symm
        have ne_x6_cb113 : b15 ≠ cb113 := by have := obj_lt o_x6; omega
        have ne_cb113_x6 := ne_x6_cb113.symm
        have ne_cb23_cb113 : cb23 ≠ cb113 := by have := obj_lt o_cb23; omega
        have ne_cb113_cb23 := ne_cb23_cb113.symm
        have ne_cb27_cb113 : cb27 ≠ cb113 := by have := obj_lt o_cb27; omega
        have ne_cb113_cb27 := ne_cb27_cb113.symm
        have ne_D0_cb113 : w24.heap.size ≠ cb113 := by have := obj_lt o_D0; omega
        have ne_cb113_D0 := ne_D0_cb113.symm
        have ne_x11_cb113 : b87 ≠ cb113 := by have := obj_lt o_x11; omega
        have ne_cb113_x11 := ne_x11_cb113.symm
        have ne_x12_cb113 : b90 ≠ cb113 := by have := obj_lt o_x12; omega
        have ne_cb113_x12 := ne_x12_cb113.symm
        have ne_cb96_cb113 : cb96 ≠ cb113 := by have := obj_lt o_cb96; omega
        have ne_cb113_cb96 := ne_cb96_cb113.symm
        have ne_cb100_cb113 : cb100 ≠ cb113 := by have := obj_lt o_cb100; omega
        have ne_cb113_cb100 := ne_cb100_cb113.symm
        have ne_D1_cb113 : w97.heap.size ≠ cb113 := by have := obj_lt o_D1; omega
        have ne_cb113_D1 := ne_D1_cb113.symm
        have nb_o_cb113_r_x12_0 := Row.nb_ge r_x12_0 g_cb113
        replace g_cb113 := Nat.le_trans hs g_cb113
        replace hb := hb.trans (hB111.mono hs)
        replace hs := Nat.le_trans hs (hB111.size)
        replace o_x2 := obj_below o_x2 hB111
        replace o_x4 := obj_below o_x4 hB111
        replace o_x5 := obj_below o_x5 hB111
        replace o_x6 := obj_below o_x6 hB111
        replace o_cb23 := obj_below o_cb23 hB111
        replace o_cb27 := obj_below o_cb27 hB111
        replace o_D0 := obj_below o_D0 hB111
        replace o_x11 := obj_below o_x11 hB111
        replace o_x12 := obj_below o_x12 hB111
        replace o_cb96 := obj_below o_cb96 hB111
        replace o_cb100 := obj_below o_cb100 hB111
        replace o_D1 := obj_below o_D1 hB111
        replace r_x12_0 := r_x12_0.below hB111
        refine L_run (.bool false) (by kernel_rfl) (by kernel_rfl) (L_nil (thenQ_normal (W_false (by kernel_rfl) (W_skip (thenQ_normal (W_seq (W_seq (W_region (L_mv (L_call 17 [(S b)] (by kernel_rfl) (by kernel_rfl) (c_words_Each b _ ) ?_))))))))))
        rintro _ w114 ⟨cb117, rfl, o_cb117, g_cb117, hB115⟩
        have ne_x2_cb117 : b1 ≠ cb117 := by have := obj_lt o_x2; omega
        have ne_cb117_x2 := ne_x2_cb117.symm
        have ne_x4_cb117 : b4 ≠ cb117 := by have := obj_lt o_x4; omega
        have ne_cb117_x4 := ne_x4_cb117.symm
        have ne_x5_cb117 : b10 ≠ cb117 := by have := obj_lt o_x5; omega
        have ne_cb117_x5 := ne_x5_cb117.symm
        have ne_x6_cb117 : b15 ≠ cb117 := by have := obj_lt o_x6; omega
        have ne_cb117_x6 := ne_x6_cb117.symm
        have ne_cb23_cb117 : cb23 ≠ cb117 := by have := obj_lt o_cb23; omega
        have ne_cb117_cb23 := ne_cb23_cb117.symm
        have ne_cb27_cb117 : cb27 ≠ cb117 := by have := obj_lt o_cb27; omega
        have ne_cb117_cb27 := ne_cb27_cb117.symm
        have ne_D0_cb117 : w24.heap.size ≠ cb117 := by have := obj_lt o_D0; omega
        have ne_cb117_D0 := ne_D0_cb117.symm
        have ne_x11_cb117 : b87 ≠ cb117 := by have := obj_lt o_x11; omega
        have ne_cb117_x11 := ne_x11_cb117.symm
        have ne_x12_cb117 : b90 ≠ cb117 := by have := obj_lt o_x12; omega
        have ne_cb117_x12 := ne_x12_cb117.symm
        have ne_cb96_cb117 : cb96 ≠ cb117 := by have := obj_lt o_cb96; omega
        have ne_cb117_cb96 := ne_cb96_cb117.symm
        have ne_cb100_cb117 : cb100 ≠ cb117 := by have := obj_lt o_cb100; omega
        have ne_cb117_cb100 := ne_cb100_cb117.symm
        have ne_D1_cb117 : w97.heap.size ≠ cb117 := by have := obj_lt o_D1; omega
        have ne_cb117_D1 := ne_D1_cb117.symm
        have ne_cb113_cb117 : cb113 ≠ cb117 := by have := obj_lt o_cb113; omega
        have ne_cb117_cb113 := ne_cb113_cb117.symm
        have nb_o_cb117_r_x12_0 := Row.nb_ge r_x12_0 g_cb117
        replace g_cb117 := Nat.le_trans hs g_cb117
        replace hb := hb.trans (hB115.mono hs)
        replace hs := Nat.le_trans hs (hB115.size)
        replace o_x2 := obj_below o_x2 hB115
        replace o_x4 := obj_below o_x4 hB115
        replace o_x5 := obj_below o_x5 hB115
        replace o_x6 := obj_below o_x6 hB115
        replace o_cb23 := obj_below o_cb23 hB115
        replace o_cb27 := obj_below o_cb27 hB115
        replace o_D0 := obj_below o_D0 hB115
        replace o_x11 := obj_below o_x11 hB115
        replace o_x12 := obj_below o_x12 hB115
        replace o_cb96 := obj_below o_cb96 hB115
        replace o_cb100 := obj_below o_cb100 hB115
        replace o_D1 := obj_below o_D1 hB115
        replace o_cb113 := obj_below o_cb113 hB115
        replace r_x12_0 := r_x12_0.below hB115
        refine L_nil (thenQ_normal (W_block ?_))
        have lt_x2_2 : b1 < w114.heap.size := obj_lt o_x2
        have lt_x4_2 : b4 < w114.heap.size := obj_lt o_x4
        have lt_x5_2 : b10 < w114.heap.size := obj_lt o_x5
        have lt_x6_2 : b15 < w114.heap.size := obj_lt o_x6
        have lt_cb23_2 : cb23 < w114.heap.size := obj_lt o_cb23
        have lt_cb27_2 : cb27 < w114.heap.size := obj_lt o_cb27
        have lt_D0_2 : w24.heap.size < w114.heap.size := obj_lt o_D0
        have lt_x11_2 : b87 < w114.heap.size := obj_lt o_x11
        have lt_x12_2 : b90 < w114.heap.size := obj_lt o_x12
        have lt_cb96_2 : cb96 < w114.heap.size := obj_lt o_cb96
        have lt_cb100_2 : cb100 < w114.heap.size := obj_lt o_cb100
        have lt_D1_2 : w97.heap.size < w114.heap.size := obj_lt o_D1
        have lt_cb113_2 : cb113 < w114.heap.size := obj_lt o_cb113
        have lt_cb117_2 : cb117 < w114.heap.size := obj_lt o_cb117
        have hs_2 := hs
        have hb_2 := hb
        refine W_range 40 [(.pointer (some ⟨cb117, 0, none⟩))] (wordsOf b) (by kernel_rfl) (fun _ _ => rfl) (it_words_Each_1 cb117 b (by first | omega | (simp only [List.length_drop, List.length_take, List.length_append, List.length_cons, List.length_nil]; omega))) o_cb117 ((fun D A B h hc hd => obj_ch h hc (fun h => Nat.not_lt.2 (hd _ h) lt_cb117_2))) (by intro x; rfl) (fun K pre A => ∃ (B : List (List UInt8)) (v_x12_0 : Value), (A.heap[b1]? = some (.cells [(S a)].toArray 9 (0, 0))) ∧ (A.heap[b4]? = some (.cells [(.bool false)].toArray 4 (0, 0))) ∧ (A.heap[b10]? = some (.cells [(.int .i64 en)].toArray 3 (0, 0))) ∧ (A.heap[b15]? = some (.cells [(.int .i64 ((n : Nat) : Int))].toArray 3 (0, 0))) ∧ (A.heap[cb23]? = some (.cells [(S a)].toArray 9 (0, 0))) ∧ (A.heap[cb27]? = some (.cells [(S a)].toArray 9 (0, 0))) ∧ (A.heap[w24.heap.size]? = some (.deferred (some []))) ∧ (A.heap[b87]? = some (.cells [(.slice none 0 0)].toArray 43 (0, 0))) ∧ (A.heap[b90]? = some (.cells [v_x12_0].toArray 43 (0, 0))) ∧ (A.heap[cb96]? = some (.cells [(S a)].toArray 9 (0, 0))) ∧ (A.heap[cb100]? = some (.cells [(S a)].toArray 9 (0, 0))) ∧ (A.heap[w97.heap.size]? = some (.deferred (some []))) ∧ (A.heap[cb113]? = some (.cells [(S b)].toArray 9 (0, 0))) ∧ (A.heap[cb117]? = some (.cells [(S b)].toArray 9 (0, 0))) ∧ (Row A w.heap.size 9 1 encStr v_x12_0 B) ∧ (∀ g, Value.ownBlock v_x12_0 = some g → ¬ Iv w114.heap.size K g) ∧ (Value.ownBlock v_x12_0 ≠ some b1) ∧ (Value.ownBlock v_x12_0 ≠ some cb23) ∧ (Value.ownBlock v_x12_0 ≠ some cb27) ∧ (Value.ownBlock v_x12_0 ≠ some cb96) ∧ (Value.ownBlock v_x12_0 ≠ some cb100) ∧ (Value.ownBlock v_x12_0 ≠ some cb113) ∧ (Value.ownBlock v_x12_0 ≠ some cb117) ∧ (Below w.heap.size w A) ∧ (B = textsOf a ++ pre.map (·.2))) (fun K c pre A => False) ?_ ?_ ?_ ?_ ?_ ?_
        · intro A hA
          exact ⟨B, v_x12_0, obj_below o_x2 hA, obj_below o_x4 hA, obj_below o_x5 hA, obj_below o_x6 hA, obj_below o_cb23 hA, obj_below o_cb27 hA, obj_below o_D0 hA, obj_below o_x11 hA, obj_below o_x12 hA, obj_below o_cb96 hA, obj_below o_cb100 hA, obj_below o_D1 hA, obj_below o_cb113 hA, obj_below o_cb117 hA, r_x12_0.below hA, nr_old r_x12_0 _, nb_o_x2_r_x12_0, nb_o_cb23_r_x12_0, nb_o_cb27_r_x12_0, nb_o_cb96_r_x12_0, nb_o_cb100_r_x12_0, nb_o_cb113_r_x12_0, nb_o_cb117_r_x12_0, hb.trans (hA.mono hs), by rw [pb]; simp [textsOf]⟩
        · rintro K pre A B ⟨B, v_x12_0, o_x2, o_x4, o_x5, o_x6, o_cb23, o_cb27, o_D0, o_x11, o_x12, o_cb96, o_cb100, o_D1, o_cb113, o_cb117, r_x12_0, nr_r_x12_0, nb_o_x2_r_x12_0, nb_o_cb23_r_x12_0, nb_o_cb27_r_x12_0, nb_o_cb96_r_x12_0, nb_o_cb100_r_x12_0, nb_o_cb113_r_x12_0, nb_o_cb117_r_x12_0, hb, pb⟩ hc
          exact ⟨B, v_x12_0, obj_ch o_x2 hc (fun h => Nat.not_lt.2 h.1 lt_x2_2), obj_ch o_x4 hc (fun h => Nat.not_lt.2 h.1 lt_x4_2), obj_ch o_x5 hc (fun h => Nat.not_lt.2 h.1 lt_x5_2), obj_ch o_x6 hc (fun h => Nat.not_lt.2 h.1 lt_x6_2), obj_ch o_cb23 hc (fun h => Nat.not_lt.2 h.1 lt_cb23_2), obj_ch o_cb27 hc (fun h => Nat.not_lt.2 h.1 lt_cb27_2), obj_ch o_D0 hc (fun h => Nat.not_lt.2 h.1 lt_D0_2), obj_ch o_x11 hc (fun h => Nat.not_lt.2 h.1 lt_x11_2), obj_ch o_x12 hc (fun h => Nat.not_lt.2 h.1 lt_x12_2), obj_ch o_cb96 hc (fun h => Nat.not_lt.2 h.1 lt_cb96_2), obj_ch o_cb100 hc (fun h => Nat.not_lt.2 h.1 lt_cb100_2), obj_ch o_D1 hc (fun h => Nat.not_lt.2 h.1 lt_D1_2), obj_ch o_cb113 hc (fun h => Nat.not_lt.2 h.1 lt_cb113_2), obj_ch o_cb117 hc (fun h => Nat.not_lt.2 h.1 lt_cb117_2), r_x12_0.ch hc nr_r_x12_0, nr_r_x12_0, nb_o_x2_r_x12_0, nb_o_cb23_r_x12_0, nb_o_cb27_r_x12_0, nb_o_cb96_r_x12_0, nb_o_cb100_r_x12_0, nb_o_cb113_r_x12_0, nb_o_cb117_r_x12_0, hc.below hb hb.size (fun k h => Nat.le_trans hs_2 h.1), pb⟩
        · intro K c _ A B h hc; exact h.elim
        · intro l K pre x A hi hN hK0 hK hpre
          obtain ⟨B, v_x12_0, o_x2, o_x4, o_x5, o_x6, o_cb23, o_cb27, o_D0, o_x11, o_x12, o_cb96, o_cb100, o_D1, o_cb113, o_cb117, r_x12_0, nr_r_x12_0, nb_o_x2_r_x12_0, nb_o_cb23_r_x12_0, nb_o_cb27_r_x12_0, nb_o_cb96_r_x12_0, nb_o_cb100_r_x12_0, nb_o_cb113_r_x12_0, nb_o_cb117_r_x12_0, hb, pb⟩ := hi
          have hs := hb.size
          have hk := Kp.refl (w114.heap.size) K A
          have nv_x2 : ¬ Iv (w114.heap.size) K b1 := fun h => Nat.not_lt.2 h.1 lt_x2_2
          have nv_x4 : ¬ Iv (w114.heap.size) K b4 := fun h => Nat.not_lt.2 h.1 lt_x4_2
          have nv_x5 : ¬ Iv (w114.heap.size) K b10 := fun h => Nat.not_lt.2 h.1 lt_x5_2
          have nv_x6 : ¬ Iv (w114.heap.size) K b15 := fun h => Nat.not_lt.2 h.1 lt_x6_2
          have nv_cb23 : ¬ Iv (w114.heap.size) K cb23 := fun h => Nat.not_lt.2 h.1 lt_cb23_2
          have nv_cb27 : ¬ Iv (w114.heap.size) K cb27 := fun h => Nat.not_lt.2 h.1 lt_cb27_2
          have nv_D0 : ¬ Iv (w114.heap.size) K w24.heap.size := fun h => Nat.not_lt.2 h.1 lt_D0_2
          have nv_x11 : ¬ Iv (w114.heap.size) K b87 := fun h => Nat.not_lt.2 h.1 lt_x11_2
          have nv_x12 : ¬ Iv (w114.heap.size) K b90 := fun h => Nat.not_lt.2 h.1 lt_x12_2
          have nv_cb96 : ¬ Iv (w114.heap.size) K cb96 := fun h => Nat.not_lt.2 h.1 lt_cb96_2
          have nv_cb100 : ¬ Iv (w114.heap.size) K cb100 := fun h => Nat.not_lt.2 h.1 lt_cb100_2
          have nv_D1 : ¬ Iv (w114.heap.size) K w97.heap.size := fun h => Nat.not_lt.2 h.1 lt_D1_2
          have nv_cb113 : ¬ Iv (w114.heap.size) K cb113 := fun h => Nat.not_lt.2 h.1 lt_cb113_2
          have nv_cb117 : ¬ Iv (w114.heap.size) K cb117 := fun h => Nat.not_lt.2 h.1 lt_cb117_2
          replace o_cb117 := hN
          have hwl := words_len hpre
          have hta := texts_len a
          have hBl : B.length = (textsOf a).length + pre.length := by rw [pb]; simp
          refine W_region (L_as (L_nil ?_))
          refine thenQ_normal ⟨hk, ?_⟩
          intro w118 hc119
          replace o_x2 := obj_ch o_x2 hc119 nv_x2
          replace o_x4 := obj_ch o_x4 hc119 nv_x4
          replace o_x5 := obj_ch o_x5 hc119 nv_x5
          replace o_x6 := obj_ch o_x6 hc119 nv_x6
          replace o_cb23 := obj_ch o_cb23 hc119 nv_cb23
          replace o_cb27 := obj_ch o_cb27 hc119 nv_cb27
          replace o_D0 := obj_ch o_D0 hc119 nv_D0
          replace o_x11 := obj_ch o_x11 hc119 nv_x11
          replace o_x12 := obj_ch o_x12 hc119 nv_x12
          replace o_cb96 := obj_ch o_cb96 hc119 nv_cb96
          replace o_cb100 := obj_ch o_cb100 hc119 nv_cb100
          replace o_D1 := obj_ch o_D1 hc119 nv_D1
          replace o_cb113 := obj_ch o_cb113 hc119 nv_cb113
          replace o_cb117 := obj_ch o_cb117 hc119 nv_cb117
          replace r_x12_0 := r_x12_0.ch hc119 nr_r_x12_0
          replace hb := hc119.below hb hs (fun k h => Nat.le_trans hs_2 h.1)
          replace hs := hb.size
          replace hK := Nat.le_trans hK hc119.size
          replace hk := Kp.refl (w114.heap.size) K w118
          refine W_block (W_region (L_load b90 0 v_x12_0 (by kernel_rfl) (by kernel_rfl) (cell_obj o_x12 rfl) (L_mv (L_app el43 w.heap.size v_x12_0 B x.2 hs r_x12_0 (by first | omega | (simp [*]; omega)) (by kernel_rfl) rfl rfl (by kernel_rfl) rfl (by kernel_rfl) (by kernel_rfl) ?_))))
          intro v120 w121 hr122 hg123 how124
          have nr2 := nr_app how124 nr_r_x12_0 hK
          have nc_o_x2 := ownb_app how124 nb_o_x2_r_x12_0 (obj_lt o_x2)
          have nc_o_cb23 := ownb_app how124 nb_o_cb23_r_x12_0 (obj_lt o_cb23)
          have nc_o_cb27 := ownb_app how124 nb_o_cb27_r_x12_0 (obj_lt o_cb27)
          have nc_o_cb96 := ownb_app how124 nb_o_cb96_r_x12_0 (obj_lt o_cb96)
          have nc_o_cb100 := ownb_app how124 nb_o_cb100_r_x12_0 (obj_lt o_cb100)
          have nc_o_cb113 := ownb_app how124 nb_o_cb113_r_x12_0 (obj_lt o_cb113)
          have nc_o_cb117 := ownb_app how124 nb_o_cb117_r_x12_0 (obj_lt o_cb117)
          replace hb := hb.grown hg123 hs (fun k hk => (World.ownsRow.lt r_x12_0 k hk).1)
          replace hk := hk.ch (Ch.of_grown hg123) hK (fun k e => nr_r_x12_0 k e)
          replace hK := Nat.le_trans hK (hg123.size)
          replace hs := Nat.le_trans hs (hg123.size)
          have n_o_x2 := obj_grown o_x2 hg123 nb_o_x2_r_x12_0
          have n_o_x4 := obj_grown o_x4 hg123 (r_x12_0.ne o_x4 (by simp))
          have n_o_x5 := obj_grown o_x5 hg123 (r_x12_0.ne o_x5 (by simp))
          have n_o_x6 := obj_grown o_x6 hg123 (r_x12_0.ne o_x6 (by simp))
          have n_o_cb23 := obj_grown o_cb23 hg123 nb_o_cb23_r_x12_0
          have n_o_cb27 := obj_grown o_cb27 hg123 nb_o_cb27_r_x12_0
          have n_o_D0 := obj_grown o_D0 hg123 (r_x12_0.ne o_D0 (by simp))
          have n_o_x11 := obj_grown o_x11 hg123 (r_x12_0.ne o_x11 (by simp))
          have n_o_x12 := obj_grown o_x12 hg123 (r_x12_0.ne o_x12 (by simp))
          have n_o_cb96 := obj_grown o_cb96 hg123 nb_o_cb96_r_x12_0
          have n_o_cb100 := obj_grown o_cb100 hg123 nb_o_cb100_r_x12_0
          have n_o_D1 := obj_grown o_D1 hg123 (r_x12_0.ne o_D1 (by simp))
          have n_o_cb113 := obj_grown o_cb113 hg123 nb_o_cb113_r_x12_0
          have n_o_cb117 := obj_grown o_cb117 hg123 nb_o_cb117_r_x12_0
          replace o_x2 := n_o_x2; clear n_o_x2
          replace o_x4 := n_o_x4; clear n_o_x4
          replace o_x5 := n_o_x5; clear n_o_x5
          replace o_x6 := n_o_x6; clear n_o_x6
          replace o_cb23 := n_o_cb23; clear n_o_cb23
          replace o_cb27 := n_o_cb27; clear n_o_cb27
          replace o_D0 := n_o_D0; clear n_o_D0
          replace o_x11 := n_o_x11; clear n_o_x11
          replace o_x12 := n_o_x12; clear n_o_x12
          replace o_cb96 := n_o_cb96; clear n_o_cb96
          replace o_cb100 := n_o_cb100; clear n_o_cb100
          replace o_D1 := n_o_D1; clear n_o_D1
          replace o_cb113 := n_o_cb113; clear n_o_cb113
          replace o_cb117 := n_o_cb117; clear n_o_cb117
          have nb_o_x2_r_x12_0 := nc_o_x2
          have nb_o_cb23_r_x12_0 := nc_o_cb23
          have nb_o_cb27_r_x12_0 := nc_o_cb27
          have nb_o_cb96_r_x12_0 := nc_o_cb96
          have nb_o_cb100_r_x12_0 := nc_o_cb100
          have nb_o_cb113_r_x12_0 := nc_o_cb113
          have nb_o_cb117_r_x12_0 := nc_o_cb117
          replace r_x12_0 := hr122
          have nr_r_x12_0 := nr2; clear nr2
          refine L_store b90 0 v120 [v_x12_0] [v120] 43 (by kernel_rfl) (by kernel_rfl) r_x12_0.one (by kernel_rfl) o_x12 (by simp) rfl ?_
          intro w125 hW126
          replace hb := hb.trans (hW126.below g_x12)
          replace hk := hk.ch (Ch.of_wrote hW126) hK (fun k e h => nv_x12 (e ▸ h))
          replace hK := Nat.le_trans hK (Nat.le_of_eq hW126.size.symm)
          replace hs := Nat.le_trans hs (Nat.le_of_eq hW126.size.symm)
          have n_o_x2 := obj_wrote o_x2 hW126 (obj_ne o_x2 o_x12 (by simp))
          have n_o_x4 := obj_wrote o_x4 hW126 (obj_ne o_x4 o_x12 (by simp))
          have n_o_x5 := obj_wrote o_x5 hW126 (obj_ne o_x5 o_x12 (by simp))
          have n_o_x6 := obj_wrote o_x6 hW126 (obj_ne o_x6 o_x12 (by simp))
          have n_o_cb23 := obj_wrote o_cb23 hW126 (obj_ne o_cb23 o_x12 (by simp))
          have n_o_cb27 := obj_wrote o_cb27 hW126 (obj_ne o_cb27 o_x12 (by simp))
          have n_o_D0 := obj_wrote o_D0 hW126 (obj_ne o_D0 o_x12 (by simp))
          have n_o_x11 := obj_wrote o_x11 hW126 ne_x11_x12
          have n_o_cb96 := obj_wrote o_cb96 hW126 (obj_ne o_cb96 o_x12 (by simp))
          have n_o_cb100 := obj_wrote o_cb100 hW126 (obj_ne o_cb100 o_x12 (by simp))
          have n_o_D1 := obj_wrote o_D1 hW126 (obj_ne o_D1 o_x12 (by simp))
          have n_o_cb113 := obj_wrote o_cb113 hW126 (obj_ne o_cb113 o_x12 (by simp))
          have n_o_cb117 := obj_wrote o_cb117 hW126 (obj_ne o_cb117 o_x12 (by simp))
          have n_r_x12_0 := r_x12_0.wrote hW126 (r_x12_0.ne o_x12 (by simp))
          replace o_x2 := n_o_x2; clear n_o_x2
          replace o_x4 := n_o_x4; clear n_o_x4
          replace o_x5 := n_o_x5; clear n_o_x5
          replace o_x6 := n_o_x6; clear n_o_x6
          replace o_cb23 := n_o_cb23; clear n_o_cb23
          replace o_cb27 := n_o_cb27; clear n_o_cb27
          replace o_D0 := n_o_D0; clear n_o_D0
          replace o_x11 := n_o_x11; clear n_o_x11
          replace o_cb96 := n_o_cb96; clear n_o_cb96
          replace o_cb100 := n_o_cb100; clear n_o_cb100
          replace o_D1 := n_o_D1; clear n_o_D1
          replace o_cb113 := n_o_cb113; clear n_o_cb113
          replace o_cb117 := n_o_cb117; clear n_o_cb117
          replace r_x12_0 := n_r_x12_0; clear n_r_x12_0
          replace o_x12 := hW126.here
          refine L_nil (blkQ_normal ?_)
          refine round_normal hk o_cb117 ⟨(B ++ [x.2]), v120, o_x2, o_x4, o_x5, o_x6, o_cb23, o_cb27, o_D0, o_x11, o_x12, o_cb96, o_cb100, o_D1, o_cb113, o_cb117, r_x12_0, nr_r_x12_0, nb_o_x2_r_x12_0, nb_o_cb23_r_x12_0, nb_o_cb27_r_x12_0, nb_o_cb96_r_x12_0, nb_o_cb100_r_x12_0, nb_o_cb113_r_x12_0, nb_o_cb117_r_x12_0, hb, ?_⟩
          · rw [pb]; simp
        · intro K A hi hsz o_D2
          obtain ⟨B, v_x12_0, o_x2, o_x4, o_x5, o_x6, o_cb23, o_cb27, o_D0, o_x11, o_x12, o_cb96, o_cb100, o_D1, o_cb113, o_cb117, r_x12_0, nr_r_x12_0, nb_o_x2_r_x12_0, nb_o_cb23_r_x12_0, nb_o_cb27_r_x12_0, nb_o_cb96_r_x12_0, nb_o_cb100_r_x12_0, nb_o_cb113_r_x12_0, nb_o_cb117_r_x12_0, hb, pb⟩ := hi
          have ne_x2_D2 : b1 ≠ w114.heap.size := Nat.ne_of_lt lt_x2_2
          have ne_D2_x2 := ne_x2_D2.symm
          have ne_x4_D2 : b4 ≠ w114.heap.size := Nat.ne_of_lt lt_x4_2
          have ne_D2_x4 := ne_x4_D2.symm
          have ne_x5_D2 : b10 ≠ w114.heap.size := Nat.ne_of_lt lt_x5_2
          have ne_D2_x5 := ne_x5_D2.symm
          have ne_x6_D2 : b15 ≠ w114.heap.size := Nat.ne_of_lt lt_x6_2
          have ne_D2_x6 := ne_x6_D2.symm
          have ne_cb23_D2 : cb23 ≠ w114.heap.size := Nat.ne_of_lt lt_cb23_2
          have ne_D2_cb23 := ne_cb23_D2.symm
          have ne_cb27_D2 : cb27 ≠ w114.heap.size := Nat.ne_of_lt lt_cb27_2
          have ne_D2_cb27 := ne_cb27_D2.symm
          have ne_D0_D2 : w24.heap.size ≠ w114.heap.size := Nat.ne_of_lt lt_D0_2
          have ne_D2_D0 := ne_D0_D2.symm
          have ne_x11_D2 : b87 ≠ w114.heap.size := Nat.ne_of_lt lt_x11_2
          have ne_D2_x11 := ne_x11_D2.symm
          have ne_x12_D2 : b90 ≠ w114.heap.size := Nat.ne_of_lt lt_x12_2
          have ne_D2_x12 := ne_x12_D2.symm
          have ne_cb96_D2 : cb96 ≠ w114.heap.size := Nat.ne_of_lt lt_cb96_2
          have ne_D2_cb96 := ne_cb96_D2.symm
          have ne_cb100_D2 : cb100 ≠ w114.heap.size := Nat.ne_of_lt lt_cb100_2
          have ne_D2_cb100 := ne_cb100_D2.symm
          have ne_D1_D2 : w97.heap.size ≠ w114.heap.size := Nat.ne_of_lt lt_D1_2
          have ne_D2_D1 := ne_D1_D2.symm
          have ne_cb113_D2 : cb113 ≠ w114.heap.size := Nat.ne_of_lt lt_cb113_2
          have ne_D2_cb113 := ne_cb113_D2.symm
          have ne_cb117_D2 : cb117 ≠ w114.heap.size := Nat.ne_of_lt lt_cb117_2
          have ne_D2_cb117 := ne_cb117_D2.symm
          have hs : w.heap.size ≤ _ := hb.size
          refine blkQ_normal (thenQ_normal (W_seq (W_seq (W_region (L_load b1 0 (S a) (by kernel_rfl) (by kernel_rfl) (cell_obj o_x2 rfl) (L_sadd a ([32] : List UInt8) (by first | omega | (simp only [List.length_append, List.length_cons, List.length_nil]; omega)) (by kernel_rfl) (by kernel_rfl) (L_mv (L_sadd (a ++ ([32] : List UInt8)) b (by first | omega | (simp only [List.length_append, List.length_cons, List.length_nil]; omega)) (by kernel_rfl) (by kernel_rfl) (L_call 17 [(S ((a ++ ([32] : List UInt8)) ++ b))] (by kernel_rfl) (by kernel_rfl) (c_words_Each ((a ++ ([32] : List UInt8)) ++ b) _ ) ?_)))))))))
          rintro _ w127 ⟨cb130, rfl, o_cb130, g_cb130, hB128⟩
          have ne_x2_cb130 : b1 ≠ cb130 := by have := obj_lt o_x2; omega
          have ne_cb130_x2 := ne_x2_cb130.symm
          have ne_x4_cb130 : b4 ≠ cb130 := by have := obj_lt o_x4; omega
          have ne_cb130_x4 := ne_x4_cb130.symm
          have ne_x5_cb130 : b10 ≠ cb130 := by have := obj_lt o_x5; omega
          have ne_cb130_x5 := ne_x5_cb130.symm
          have ne_x6_cb130 : b15 ≠ cb130 := by have := obj_lt o_x6; omega
          have ne_cb130_x6 := ne_x6_cb130.symm
          have ne_cb23_cb130 : cb23 ≠ cb130 := by have := obj_lt o_cb23; omega
          have ne_cb130_cb23 := ne_cb23_cb130.symm
          have ne_cb27_cb130 : cb27 ≠ cb130 := by have := obj_lt o_cb27; omega
          have ne_cb130_cb27 := ne_cb27_cb130.symm
          have ne_D0_cb130 : w24.heap.size ≠ cb130 := by have := obj_lt o_D0; omega
          have ne_cb130_D0 := ne_D0_cb130.symm
          have ne_x11_cb130 : b87 ≠ cb130 := by have := obj_lt o_x11; omega
          have ne_cb130_x11 := ne_x11_cb130.symm
          have ne_x12_cb130 : b90 ≠ cb130 := by have := obj_lt o_x12; omega
          have ne_cb130_x12 := ne_x12_cb130.symm
          have ne_cb96_cb130 : cb96 ≠ cb130 := by have := obj_lt o_cb96; omega
          have ne_cb130_cb96 := ne_cb96_cb130.symm
          have ne_cb100_cb130 : cb100 ≠ cb130 := by have := obj_lt o_cb100; omega
          have ne_cb130_cb100 := ne_cb100_cb130.symm
          have ne_D1_cb130 : w97.heap.size ≠ cb130 := by have := obj_lt o_D1; omega
          have ne_cb130_D1 := ne_D1_cb130.symm
          have ne_cb113_cb130 : cb113 ≠ cb130 := by have := obj_lt o_cb113; omega
          have ne_cb130_cb113 := ne_cb113_cb130.symm
          have ne_cb117_cb130 : cb117 ≠ cb130 := by have := obj_lt o_cb117; omega
          have ne_cb130_cb117 := ne_cb117_cb130.symm
          have ne_D2_cb130 : w114.heap.size ≠ cb130 := by have := obj_lt o_D2; omega
          have ne_cb130_D2 := ne_D2_cb130.symm
          have nb_o_cb130_r_x12_0 := Row.nb_ge r_x12_0 g_cb130
          replace g_cb130 := Nat.le_trans hs g_cb130
          replace hb := hb.trans (hB128.mono hs)
          replace hs := Nat.le_trans hs (hB128.size)
          replace o_x2 := obj_below o_x2 hB128
          replace o_x4 := obj_below o_x4 hB128
          replace o_x5 := obj_below o_x5 hB128
          replace o_x6 := obj_below o_x6 hB128
          replace o_cb23 := obj_below o_cb23 hB128
          replace o_cb27 := obj_below o_cb27 hB128
          replace o_D0 := obj_below o_D0 hB128
          replace o_x11 := obj_below o_x11 hB128
          replace o_x12 := obj_below o_x12 hB128
          replace o_cb96 := obj_below o_cb96 hB128
          replace o_cb100 := obj_below o_cb100 hB128
          replace o_D1 := obj_below o_D1 hB128
          replace o_cb113 := obj_below o_cb113 hB128
          replace o_cb117 := obj_below o_cb117 hB128
          replace o_D2 := obj_below o_D2 hB128
          replace r_x12_0 := r_x12_0.below hB128
          refine L_run (.bool false) (by kernel_rfl) (by kernel_rfl) (L_nil (thenQ_normal (W_false (by kernel_rfl) (W_skip (thenQ_normal (W_seq (W_seq (W_region (L_load b1 0 (S a) (by kernel_rfl) (by kernel_rfl) (cell_obj o_x2 rfl) (L_sadd a ([32] : List UInt8) (by first | omega | (simp only [List.length_append, List.length_cons, List.length_nil]; omega)) (by kernel_rfl) (by kernel_rfl) (L_mv (L_sadd (a ++ ([32] : List UInt8)) b (by first | omega | (simp only [List.length_append, List.length_cons, List.length_nil]; omega)) (by kernel_rfl) (by kernel_rfl) (L_call 17 [(S ((a ++ ([32] : List UInt8)) ++ b))] (by kernel_rfl) (by kernel_rfl) (c_words_Each ((a ++ ([32] : List UInt8)) ++ b) _ ) ?_)))))))))))))
          rintro _ w131 ⟨cb134, rfl, o_cb134, g_cb134, hB132⟩
          have ne_x2_cb134 : b1 ≠ cb134 := by have := obj_lt o_x2; omega
          have ne_cb134_x2 := ne_x2_cb134.symm
          have ne_x4_cb134 : b4 ≠ cb134 := by have := obj_lt o_x4; omega
          have ne_cb134_x4 := ne_x4_cb134.symm
          have ne_x5_cb134 : b10 ≠ cb134 := by have := obj_lt o_x5; omega
          have ne_cb134_x5 := ne_x5_cb134.symm
          have ne_x6_cb134 : b15 ≠ cb134 := by have := obj_lt o_x6; omega
          have ne_cb134_x6 := ne_x6_cb134.symm
          have ne_cb23_cb134 : cb23 ≠ cb134 := by have := obj_lt o_cb23; omega
          have ne_cb134_cb23 := ne_cb23_cb134.symm
          have ne_cb27_cb134 : cb27 ≠ cb134 := by have := obj_lt o_cb27; omega
          have ne_cb134_cb27 := ne_cb27_cb134.symm
          have ne_D0_cb134 : w24.heap.size ≠ cb134 := by have := obj_lt o_D0; omega
          have ne_cb134_D0 := ne_D0_cb134.symm
          have ne_x11_cb134 : b87 ≠ cb134 := by have := obj_lt o_x11; omega
          have ne_cb134_x11 := ne_x11_cb134.symm
          have ne_x12_cb134 : b90 ≠ cb134 := by have := obj_lt o_x12; omega
          have ne_cb134_x12 := ne_x12_cb134.symm
          have ne_cb96_cb134 : cb96 ≠ cb134 := by have := obj_lt o_cb96; omega
          have ne_cb134_cb96 := ne_cb96_cb134.symm
          have ne_cb100_cb134 : cb100 ≠ cb134 := by have := obj_lt o_cb100; omega
          have ne_cb134_cb100 := ne_cb100_cb134.symm
          have ne_D1_cb134 : w97.heap.size ≠ cb134 := by have := obj_lt o_D1; omega
          have ne_cb134_D1 := ne_D1_cb134.symm
          have ne_cb113_cb134 : cb113 ≠ cb134 := by have := obj_lt o_cb113; omega
          have ne_cb134_cb113 := ne_cb113_cb134.symm
          have ne_cb117_cb134 : cb117 ≠ cb134 := by have := obj_lt o_cb117; omega
          have ne_cb134_cb117 := ne_cb117_cb134.symm
          have ne_D2_cb134 : w114.heap.size ≠ cb134 := by have := obj_lt o_D2; omega
          have ne_cb134_D2 := ne_D2_cb134.symm
          have ne_cb130_cb134 : cb130 ≠ cb134 := by have := obj_lt o_cb130; omega
          have ne_cb134_cb130 := ne_cb130_cb134.symm
          have nb_o_cb134_r_x12_0 := Row.nb_ge r_x12_0 g_cb134
          replace g_cb134 := Nat.le_trans hs g_cb134
          replace hb := hb.trans (hB132.mono hs)
          replace hs := Nat.le_trans hs (hB132.size)
          replace o_x2 := obj_below o_x2 hB132
          replace o_x4 := obj_below o_x4 hB132
          replace o_x5 := obj_below o_x5 hB132
          replace o_x6 := obj_below o_x6 hB132
          replace o_cb23 := obj_below o_cb23 hB132
          replace o_cb27 := obj_below o_cb27 hB132
          replace o_D0 := obj_below o_D0 hB132
          replace o_x11 := obj_below o_x11 hB132
          replace o_x12 := obj_below o_x12 hB132
          replace o_cb96 := obj_below o_cb96 hB132
          replace o_cb100 := obj_below o_cb100 hB132
          replace o_D1 := obj_below o_D1 hB132
          replace o_cb113 := obj_below o_cb113 hB132
          replace o_cb117 := obj_below o_cb117 hB132
          replace o_D2 := obj_below o_D2 hB132
          replace o_cb130 := obj_below o_cb130 hB132
          replace r_x12_0 := r_x12_0.below hB132
          refine L_nil (thenQ_normal (W_block ?_))
          have lt_x2_3 : b1 < w131.heap.size := obj_lt o_x2
          have lt_x4_3 : b4 < w131.heap.size := obj_lt o_x4
          have lt_x5_3 : b10 < w131.heap.size := obj_lt o_x5
          have lt_x6_3 : b15 < w131.heap.size := obj_lt o_x6
          have lt_cb23_3 : cb23 < w131.heap.size := obj_lt o_cb23
          have lt_cb27_3 : cb27 < w131.heap.size := obj_lt o_cb27
          have lt_D0_3 : w24.heap.size < w131.heap.size := obj_lt o_D0
          have lt_x11_3 : b87 < w131.heap.size := obj_lt o_x11
          have lt_x12_3 : b90 < w131.heap.size := obj_lt o_x12
          have lt_cb96_3 : cb96 < w131.heap.size := obj_lt o_cb96
          have lt_cb100_3 : cb100 < w131.heap.size := obj_lt o_cb100
          have lt_D1_3 : w97.heap.size < w131.heap.size := obj_lt o_D1
          have lt_cb113_3 : cb113 < w131.heap.size := obj_lt o_cb113
          have lt_cb117_3 : cb117 < w131.heap.size := obj_lt o_cb117
          have lt_D2_3 : w114.heap.size < w131.heap.size := obj_lt o_D2
          have lt_cb130_3 : cb130 < w131.heap.size := obj_lt o_cb130
          have lt_cb134_3 : cb134 < w131.heap.size := obj_lt o_cb134
          have hs_3 := hs
          have hb_3 := hb
          refine W_range 40 [(.pointer (some ⟨cb134, 0, none⟩))] (wordsOf ((a ++ ([32] : List UInt8)) ++ b)) (by kernel_rfl) (fun _ _ => rfl) (it_words_Each_1 cb134 ((a ++ ([32] : List UInt8)) ++ b) (by first | omega | (simp only [List.length_drop, List.length_take, List.length_append, List.length_cons, List.length_nil]; omega))) o_cb134 ((fun D A B h hc hd => obj_ch h hc (fun h => Nat.not_lt.2 (hd _ h) lt_cb134_3))) (by intro x; rfl) (fun K pre A => ∃ (B : List (List UInt8)) (A_ : List (List UInt8)) (v_x12_0 : Value) (v_x11_0 : Value), (A.heap[b1]? = some (.cells [(S a)].toArray 9 (0, 0))) ∧ (A.heap[b4]? = some (.cells [(.bool false)].toArray 4 (0, 0))) ∧ (A.heap[b10]? = some (.cells [(.int .i64 en)].toArray 3 (0, 0))) ∧ (A.heap[b15]? = some (.cells [(.int .i64 ((n : Nat) : Int))].toArray 3 (0, 0))) ∧ (A.heap[cb23]? = some (.cells [(S a)].toArray 9 (0, 0))) ∧ (A.heap[cb27]? = some (.cells [(S a)].toArray 9 (0, 0))) ∧ (A.heap[w24.heap.size]? = some (.deferred (some []))) ∧ (A.heap[b87]? = some (.cells [v_x11_0].toArray 43 (0, 0))) ∧ (A.heap[b90]? = some (.cells [v_x12_0].toArray 43 (0, 0))) ∧ (A.heap[cb96]? = some (.cells [(S a)].toArray 9 (0, 0))) ∧ (A.heap[cb100]? = some (.cells [(S a)].toArray 9 (0, 0))) ∧ (A.heap[w97.heap.size]? = some (.deferred (some []))) ∧ (A.heap[cb113]? = some (.cells [(S b)].toArray 9 (0, 0))) ∧ (A.heap[cb117]? = some (.cells [(S b)].toArray 9 (0, 0))) ∧ (A.heap[w114.heap.size]? = some (.deferred (some []))) ∧ (A.heap[cb130]? = some (.cells [(S ((a ++ ([32] : List UInt8)) ++ b))].toArray 9 (0, 0))) ∧ (A.heap[cb134]? = some (.cells [(S ((a ++ ([32] : List UInt8)) ++ b))].toArray 9 (0, 0))) ∧ (Row A w.heap.size 9 1 encStr v_x12_0 B) ∧ (∀ g, Value.ownBlock v_x12_0 = some g → ¬ Iv w131.heap.size K g) ∧ (Row A w.heap.size 9 1 encStr v_x11_0 A_) ∧ (∀ g, Value.ownBlock v_x11_0 = some g → ¬ Iv w131.heap.size K g) ∧ (Value.ownBlock v_x12_0 = none ∨ Value.ownBlock v_x12_0 ≠ Value.ownBlock v_x11_0) ∧ (Value.ownBlock v_x11_0 = none ∨ Value.ownBlock v_x11_0 ≠ Value.ownBlock v_x12_0) ∧ (Value.ownBlock v_x12_0 ≠ some b1) ∧ (Value.ownBlock v_x12_0 ≠ some cb23) ∧ (Value.ownBlock v_x12_0 ≠ some cb27) ∧ (Value.ownBlock v_x12_0 ≠ some cb96) ∧ (Value.ownBlock v_x12_0 ≠ some cb100) ∧ (Value.ownBlock v_x12_0 ≠ some cb113) ∧ (Value.ownBlock v_x12_0 ≠ some cb117) ∧ (Value.ownBlock v_x12_0 ≠ some cb130) ∧ (Value.ownBlock v_x12_0 ≠ some cb134) ∧ (Value.ownBlock v_x11_0 ≠ some b1) ∧ (Value.ownBlock v_x11_0 ≠ some cb23) ∧ (Value.ownBlock v_x11_0 ≠ some cb27) ∧ (Value.ownBlock v_x11_0 ≠ some cb96) ∧ (Value.ownBlock v_x11_0 ≠ some cb100) ∧ (Value.ownBlock v_x11_0 ≠ some cb113) ∧ (Value.ownBlock v_x11_0 ≠ some cb117) ∧ (Value.ownBlock v_x11_0 ≠ some cb130) ∧ (Value.ownBlock v_x11_0 ≠ some cb134) ∧ (Below w.heap.size w A) ∧ (B = textsOf a ++ textsOf b) ∧ (A_ = pre.map (·.2))) (fun K c pre A => False) ?_ ?_ ?_ ?_ ?_ ?_
          · intro A hA
            exact ⟨B, [], v_x12_0, (.slice none 0 0), obj_below o_x2 hA, obj_below o_x4 hA, obj_below o_x5 hA, obj_below o_x6 hA, obj_below o_cb23 hA, obj_below o_cb27 hA, obj_below o_D0 hA, obj_below o_x11 hA, obj_below o_x12 hA, obj_below o_cb96 hA, obj_below o_cb100 hA, obj_below o_D1 hA, obj_below o_cb113 hA, obj_below o_cb117 hA, obj_below o_D2 hA, obj_below o_cb130 hA, obj_below o_cb134 hA, r_x12_0.below hA, nr_old r_x12_0 _, Row.nil _ _ _ _ _, nr_nil _ _, ap_nil _, (.inl rfl), nb_o_x2_r_x12_0, nb_o_cb23_r_x12_0, nb_o_cb27_r_x12_0, nb_o_cb96_r_x12_0, nb_o_cb100_r_x12_0, nb_o_cb113_r_x12_0, nb_o_cb117_r_x12_0, nb_o_cb130_r_x12_0, nb_o_cb134_r_x12_0, (by simp [Value.ownBlock]), (by simp [Value.ownBlock]), (by simp [Value.ownBlock]), (by simp [Value.ownBlock]), (by simp [Value.ownBlock]), (by simp [Value.ownBlock]), (by simp [Value.ownBlock]), (by simp [Value.ownBlock]), (by simp [Value.ownBlock]), hb.trans (hA.mono hs), by rw [pb]; rfl, by rfl⟩
          · rintro K pre A B ⟨B, A_, v_x12_0, v_x11_0, o_x2, o_x4, o_x5, o_x6, o_cb23, o_cb27, o_D0, o_x11, o_x12, o_cb96, o_cb100, o_D1, o_cb113, o_cb117, o_D2, o_cb130, o_cb134, r_x12_0, nr_r_x12_0, r_x11_0, nr_r_x11_0, ap_r_x12_0_r_x11_0, ap_r_x11_0_r_x12_0, nb_o_x2_r_x12_0, nb_o_cb23_r_x12_0, nb_o_cb27_r_x12_0, nb_o_cb96_r_x12_0, nb_o_cb100_r_x12_0, nb_o_cb113_r_x12_0, nb_o_cb117_r_x12_0, nb_o_cb130_r_x12_0, nb_o_cb134_r_x12_0, nb_o_x2_r_x11_0, nb_o_cb23_r_x11_0, nb_o_cb27_r_x11_0, nb_o_cb96_r_x11_0, nb_o_cb100_r_x11_0, nb_o_cb113_r_x11_0, nb_o_cb117_r_x11_0, nb_o_cb130_r_x11_0, nb_o_cb134_r_x11_0, hb, pb, pa⟩ hc
            exact ⟨B, A_, v_x12_0, v_x11_0, obj_ch o_x2 hc (fun h => Nat.not_lt.2 h.1 lt_x2_3), obj_ch o_x4 hc (fun h => Nat.not_lt.2 h.1 lt_x4_3), obj_ch o_x5 hc (fun h => Nat.not_lt.2 h.1 lt_x5_3), obj_ch o_x6 hc (fun h => Nat.not_lt.2 h.1 lt_x6_3), obj_ch o_cb23 hc (fun h => Nat.not_lt.2 h.1 lt_cb23_3), obj_ch o_cb27 hc (fun h => Nat.not_lt.2 h.1 lt_cb27_3), obj_ch o_D0 hc (fun h => Nat.not_lt.2 h.1 lt_D0_3), obj_ch o_x11 hc (fun h => Nat.not_lt.2 h.1 lt_x11_3), obj_ch o_x12 hc (fun h => Nat.not_lt.2 h.1 lt_x12_3), obj_ch o_cb96 hc (fun h => Nat.not_lt.2 h.1 lt_cb96_3), obj_ch o_cb100 hc (fun h => Nat.not_lt.2 h.1 lt_cb100_3), obj_ch o_D1 hc (fun h => Nat.not_lt.2 h.1 lt_D1_3), obj_ch o_cb113 hc (fun h => Nat.not_lt.2 h.1 lt_cb113_3), obj_ch o_cb117 hc (fun h => Nat.not_lt.2 h.1 lt_cb117_3), obj_ch o_D2 hc (fun h => Nat.not_lt.2 h.1 lt_D2_3), obj_ch o_cb130 hc (fun h => Nat.not_lt.2 h.1 lt_cb130_3), obj_ch o_cb134 hc (fun h => Nat.not_lt.2 h.1 lt_cb134_3), r_x12_0.ch hc nr_r_x12_0, nr_r_x12_0, r_x11_0.ch hc nr_r_x11_0, nr_r_x11_0, ap_r_x12_0_r_x11_0, ap_r_x11_0_r_x12_0, nb_o_x2_r_x12_0, nb_o_cb23_r_x12_0, nb_o_cb27_r_x12_0, nb_o_cb96_r_x12_0, nb_o_cb100_r_x12_0, nb_o_cb113_r_x12_0, nb_o_cb117_r_x12_0, nb_o_cb130_r_x12_0, nb_o_cb134_r_x12_0, nb_o_x2_r_x11_0, nb_o_cb23_r_x11_0, nb_o_cb27_r_x11_0, nb_o_cb96_r_x11_0, nb_o_cb100_r_x11_0, nb_o_cb113_r_x11_0, nb_o_cb117_r_x11_0, nb_o_cb130_r_x11_0, nb_o_cb134_r_x11_0, hc.below hb hb.size (fun k h => Nat.le_trans hs_3 h.1), pb, pa⟩
          · intro K c _ A B h hc; exact h.elim
          · intro l K pre x A hi hN hK0 hK hpre
            obtain ⟨B, A_, v_x12_0, v_x11_0, o_x2, o_x4, o_x5, o_x6, o_cb23, o_cb27, o_D0, o_x11, o_x12, o_cb96, o_cb100, o_D1, o_cb113, o_cb117, o_D2, o_cb130, o_cb134, r_x12_0, nr_r_x12_0, r_x11_0, nr_r_x11_0, ap_r_x12_0_r_x11_0, ap_r_x11_0_r_x12_0, nb_o_x2_r_x12_0, nb_o_cb23_r_x12_0, nb_o_cb27_r_x12_0, nb_o_cb96_r_x12_0, nb_o_cb100_r_x12_0, nb_o_cb113_r_x12_0, nb_o_cb117_r_x12_0, nb_o_cb130_r_x12_0, nb_o_cb134_r_x12_0, nb_o_x2_r_x11_0, nb_o_cb23_r_x11_0, nb_o_cb27_r_x11_0, nb_o_cb96_r_x11_0, nb_o_cb100_r_x11_0, nb_o_cb113_r_x11_0, nb_o_cb117_r_x11_0, nb_o_cb130_r_x11_0, nb_o_cb134_r_x11_0, hb, pb, pa⟩ := hi
            have hs := hb.size
            have hk := Kp.refl (w131.heap.size) K A
            have nv_x2 : ¬ Iv (w131.heap.size) K b1 := fun h => Nat.not_lt.2 h.1 lt_x2_3
            have nv_x4 : ¬ Iv (w131.heap.size) K b4 := fun h => Nat.not_lt.2 h.1 lt_x4_3
            have nv_x5 : ¬ Iv (w131.heap.size) K b10 := fun h => Nat.not_lt.2 h.1 lt_x5_3
            have nv_x6 : ¬ Iv (w131.heap.size) K b15 := fun h => Nat.not_lt.2 h.1 lt_x6_3
            have nv_cb23 : ¬ Iv (w131.heap.size) K cb23 := fun h => Nat.not_lt.2 h.1 lt_cb23_3
            have nv_cb27 : ¬ Iv (w131.heap.size) K cb27 := fun h => Nat.not_lt.2 h.1 lt_cb27_3
            have nv_D0 : ¬ Iv (w131.heap.size) K w24.heap.size := fun h => Nat.not_lt.2 h.1 lt_D0_3
            have nv_x11 : ¬ Iv (w131.heap.size) K b87 := fun h => Nat.not_lt.2 h.1 lt_x11_3
            have nv_x12 : ¬ Iv (w131.heap.size) K b90 := fun h => Nat.not_lt.2 h.1 lt_x12_3
            have nv_cb96 : ¬ Iv (w131.heap.size) K cb96 := fun h => Nat.not_lt.2 h.1 lt_cb96_3
            have nv_cb100 : ¬ Iv (w131.heap.size) K cb100 := fun h => Nat.not_lt.2 h.1 lt_cb100_3
            have nv_D1 : ¬ Iv (w131.heap.size) K w97.heap.size := fun h => Nat.not_lt.2 h.1 lt_D1_3
            have nv_cb113 : ¬ Iv (w131.heap.size) K cb113 := fun h => Nat.not_lt.2 h.1 lt_cb113_3
            have nv_cb117 : ¬ Iv (w131.heap.size) K cb117 := fun h => Nat.not_lt.2 h.1 lt_cb117_3
            have nv_D2 : ¬ Iv (w131.heap.size) K w114.heap.size := fun h => Nat.not_lt.2 h.1 lt_D2_3
            have nv_cb130 : ¬ Iv (w131.heap.size) K cb130 := fun h => Nat.not_lt.2 h.1 lt_cb130_3
            have nv_cb134 : ¬ Iv (w131.heap.size) K cb134 := fun h => Nat.not_lt.2 h.1 lt_cb134_3
            replace o_cb134 := hN
            have hwl := words_len hpre
            have hcl : ((a ++ [32]) ++ b).length = a.length + 1 + b.length := by simp only [List.length_append, List.length_cons, List.length_nil]
            have hAl : A_.length = pre.length := by rw [pa]; simp
            refine W_region (L_as (L_nil ?_))
            refine thenQ_normal ⟨hk, ?_⟩
            intro w135 hc136
            replace o_x2 := obj_ch o_x2 hc136 nv_x2
            replace o_x4 := obj_ch o_x4 hc136 nv_x4
            replace o_x5 := obj_ch o_x5 hc136 nv_x5
            replace o_x6 := obj_ch o_x6 hc136 nv_x6
            replace o_cb23 := obj_ch o_cb23 hc136 nv_cb23
            replace o_cb27 := obj_ch o_cb27 hc136 nv_cb27
            replace o_D0 := obj_ch o_D0 hc136 nv_D0
            replace o_x11 := obj_ch o_x11 hc136 nv_x11
            replace o_x12 := obj_ch o_x12 hc136 nv_x12
            replace o_cb96 := obj_ch o_cb96 hc136 nv_cb96
            replace o_cb100 := obj_ch o_cb100 hc136 nv_cb100
            replace o_D1 := obj_ch o_D1 hc136 nv_D1
            replace o_cb113 := obj_ch o_cb113 hc136 nv_cb113
            replace o_cb117 := obj_ch o_cb117 hc136 nv_cb117
            replace o_D2 := obj_ch o_D2 hc136 nv_D2
            replace o_cb130 := obj_ch o_cb130 hc136 nv_cb130
            replace o_cb134 := obj_ch o_cb134 hc136 nv_cb134
            replace r_x12_0 := r_x12_0.ch hc136 nr_r_x12_0
            replace r_x11_0 := r_x11_0.ch hc136 nr_r_x11_0
            replace hb := hc136.below hb hs (fun k h => Nat.le_trans hs_3 h.1)
            replace hs := hb.size
            replace hK := Nat.le_trans hK hc136.size
            replace hk := Kp.refl (w131.heap.size) K w135
            refine W_block (W_region (L_load b87 0 v_x11_0 (by kernel_rfl) (by kernel_rfl) (cell_obj o_x11 rfl) (L_mv (L_app el43 w.heap.size v_x11_0 A_ x.2 hs r_x11_0 (by first | omega | (simp [*]; omega)) (by kernel_rfl) rfl rfl (by kernel_rfl) rfl (by kernel_rfl) (by kernel_rfl) ?_))))
            intro v137 w138 hr139 hg140 how141
            have nr2 := nr_app how141 nr_r_x11_0 hK
            have nc_o_x2 := ownb_app how141 nb_o_x2_r_x11_0 (obj_lt o_x2)
            have nc_o_cb23 := ownb_app how141 nb_o_cb23_r_x11_0 (obj_lt o_cb23)
            have nc_o_cb27 := ownb_app how141 nb_o_cb27_r_x11_0 (obj_lt o_cb27)
            have nc_o_cb96 := ownb_app how141 nb_o_cb96_r_x11_0 (obj_lt o_cb96)
            have nc_o_cb100 := ownb_app how141 nb_o_cb100_r_x11_0 (obj_lt o_cb100)
            have nc_o_cb113 := ownb_app how141 nb_o_cb113_r_x11_0 (obj_lt o_cb113)
            have nc_o_cb117 := ownb_app how141 nb_o_cb117_r_x11_0 (obj_lt o_cb117)
            have nc_o_cb130 := ownb_app how141 nb_o_cb130_r_x11_0 (obj_lt o_cb130)
            have nc_o_cb134 := ownb_app how141 nb_o_cb134_r_x11_0 (obj_lt o_cb134)
            have nap_r_x12_0 := ap_app r_x12_0 how141 ap_r_x12_0_r_x11_0
            replace hb := hb.grown hg140 hs (fun k hk => (World.ownsRow.lt r_x11_0 k hk).1)
            replace hk := hk.ch (Ch.of_grown hg140) hK (fun k e => nr_r_x11_0 k e)
            replace hK := Nat.le_trans hK (hg140.size)
            replace hs := Nat.le_trans hs (hg140.size)
            have n_o_x2 := obj_grown o_x2 hg140 nb_o_x2_r_x11_0
            have n_o_x4 := obj_grown o_x4 hg140 (r_x11_0.ne o_x4 (by simp))
            have n_o_x5 := obj_grown o_x5 hg140 (r_x11_0.ne o_x5 (by simp))
            have n_o_x6 := obj_grown o_x6 hg140 (r_x11_0.ne o_x6 (by simp))
            have n_o_cb23 := obj_grown o_cb23 hg140 nb_o_cb23_r_x11_0
            have n_o_cb27 := obj_grown o_cb27 hg140 nb_o_cb27_r_x11_0
            have n_o_D0 := obj_grown o_D0 hg140 (r_x11_0.ne o_D0 (by simp))
            have n_o_x11 := obj_grown o_x11 hg140 (r_x11_0.ne o_x11 (by simp))
            have n_o_x12 := obj_grown o_x12 hg140 (r_x11_0.ne o_x12 (by simp))
            have n_o_cb96 := obj_grown o_cb96 hg140 nb_o_cb96_r_x11_0
            have n_o_cb100 := obj_grown o_cb100 hg140 nb_o_cb100_r_x11_0
            have n_o_D1 := obj_grown o_D1 hg140 (r_x11_0.ne o_D1 (by simp))
            have n_o_cb113 := obj_grown o_cb113 hg140 nb_o_cb113_r_x11_0
            have n_o_cb117 := obj_grown o_cb117 hg140 nb_o_cb117_r_x11_0
            have n_o_D2 := obj_grown o_D2 hg140 (r_x11_0.ne o_D2 (by simp))
            have n_o_cb130 := obj_grown o_cb130 hg140 nb_o_cb130_r_x11_0
            have n_o_cb134 := obj_grown o_cb134 hg140 nb_o_cb134_r_x11_0
            have n_r_x12_0 := r_x12_0.grown hg140 ap_r_x12_0_r_x11_0
            replace o_x2 := n_o_x2; clear n_o_x2
            replace o_x4 := n_o_x4; clear n_o_x4
            replace o_x5 := n_o_x5; clear n_o_x5
            replace o_x6 := n_o_x6; clear n_o_x6
            replace o_cb23 := n_o_cb23; clear n_o_cb23
            replace o_cb27 := n_o_cb27; clear n_o_cb27
            replace o_D0 := n_o_D0; clear n_o_D0
            replace o_x11 := n_o_x11; clear n_o_x11
            replace o_x12 := n_o_x12; clear n_o_x12
            replace o_cb96 := n_o_cb96; clear n_o_cb96
            replace o_cb100 := n_o_cb100; clear n_o_cb100
            replace o_D1 := n_o_D1; clear n_o_D1
            replace o_cb113 := n_o_cb113; clear n_o_cb113
            replace o_cb117 := n_o_cb117; clear n_o_cb117
            replace o_D2 := n_o_D2; clear n_o_D2
            replace o_cb130 := n_o_cb130; clear n_o_cb130
            replace o_cb134 := n_o_cb134; clear n_o_cb134
            replace r_x12_0 := n_r_x12_0; clear n_r_x12_0
            have nb_o_x2_r_x11_0 := nc_o_x2
            have nb_o_cb23_r_x11_0 := nc_o_cb23
            have nb_o_cb27_r_x11_0 := nc_o_cb27
            have nb_o_cb96_r_x11_0 := nc_o_cb96
            have nb_o_cb100_r_x11_0 := nc_o_cb100
            have nb_o_cb113_r_x11_0 := nc_o_cb113
            have nb_o_cb117_r_x11_0 := nc_o_cb117
            have nb_o_cb130_r_x11_0 := nc_o_cb130
            have nb_o_cb134_r_x11_0 := nc_o_cb134
            have ap_r_x12_0_r_x11_0 := nap_r_x12_0; have ap_r_x11_0_r_x12_0 := ap_comm nap_r_x12_0
            replace r_x11_0 := hr139
            have nr_r_x11_0 := nr2; clear nr2
            refine L_store b87 0 v137 [v_x11_0] [v137] 43 (by kernel_rfl) (by kernel_rfl) r_x11_0.one (by kernel_rfl) o_x11 (by simp) rfl ?_
            intro w142 hW143
            replace hb := hb.trans (hW143.below g_x11)
            replace hk := hk.ch (Ch.of_wrote hW143) hK (fun k e h => nv_x11 (e ▸ h))
            replace hK := Nat.le_trans hK (Nat.le_of_eq hW143.size.symm)
            replace hs := Nat.le_trans hs (Nat.le_of_eq hW143.size.symm)
            have n_o_x2 := obj_wrote o_x2 hW143 (obj_ne o_x2 o_x11 (by simp))
            have n_o_x4 := obj_wrote o_x4 hW143 (obj_ne o_x4 o_x11 (by simp))
            have n_o_x5 := obj_wrote o_x5 hW143 (obj_ne o_x5 o_x11 (by simp))
            have n_o_x6 := obj_wrote o_x6 hW143 (obj_ne o_x6 o_x11 (by simp))
            have n_o_cb23 := obj_wrote o_cb23 hW143 (obj_ne o_cb23 o_x11 (by simp))
            have n_o_cb27 := obj_wrote o_cb27 hW143 (obj_ne o_cb27 o_x11 (by simp))
            have n_o_D0 := obj_wrote o_D0 hW143 (obj_ne o_D0 o_x11 (by simp))
            have n_o_x12 := obj_wrote o_x12 hW143 ne_x12_x11
            have n_o_cb96 := obj_wrote o_cb96 hW143 (obj_ne o_cb96 o_x11 (by simp))
            have n_o_cb100 := obj_wrote o_cb100 hW143 (obj_ne o_cb100 o_x11 (by simp))
            have n_o_D1 := obj_wrote o_D1 hW143 (obj_ne o_D1 o_x11 (by simp))
            have n_o_cb113 := obj_wrote o_cb113 hW143 (obj_ne o_cb113 o_x11 (by simp))
            have n_o_cb117 := obj_wrote o_cb117 hW143 (obj_ne o_cb117 o_x11 (by simp))
            have n_o_D2 := obj_wrote o_D2 hW143 (obj_ne o_D2 o_x11 (by simp))
            have n_o_cb130 := obj_wrote o_cb130 hW143 (obj_ne o_cb130 o_x11 (by simp))
            have n_o_cb134 := obj_wrote o_cb134 hW143 (obj_ne o_cb134 o_x11 (by simp))
            have n_r_x12_0 := r_x12_0.wrote hW143 (r_x12_0.ne o_x11 (by simp))
            have n_r_x11_0 := r_x11_0.wrote hW143 (r_x11_0.ne o_x11 (by simp))
            replace o_x2 := n_o_x2; clear n_o_x2
            replace o_x4 := n_o_x4; clear n_o_x4
            replace o_x5 := n_o_x5; clear n_o_x5
            replace o_x6 := n_o_x6; clear n_o_x6
            replace o_cb23 := n_o_cb23; clear n_o_cb23
            replace o_cb27 := n_o_cb27; clear n_o_cb27
            replace o_D0 := n_o_D0; clear n_o_D0
            replace o_x12 := n_o_x12; clear n_o_x12
            replace o_cb96 := n_o_cb96; clear n_o_cb96
            replace o_cb100 := n_o_cb100; clear n_o_cb100
            replace o_D1 := n_o_D1; clear n_o_D1
            replace o_cb113 := n_o_cb113; clear n_o_cb113
            replace o_cb117 := n_o_cb117; clear n_o_cb117
            replace o_D2 := n_o_D2; clear n_o_D2
            replace o_cb130 := n_o_cb130; clear n_o_cb130
            replace o_cb134 := n_o_cb134; clear n_o_cb134
            replace r_x12_0 := n_r_x12_0; clear n_r_x12_0
            replace r_x11_0 := n_r_x11_0; clear n_r_x11_0
            replace o_x11 := hW143.here
            refine L_nil (blkQ_normal ?_)
            refine round_normal hk o_cb134 ⟨B, (A_ ++ [x.2]), v_x12_0, v137, o_x2, o_x4, o_x5, o_x6, o_cb23, o_cb27, o_D0, o_x11, o_x12, o_cb96, o_cb100, o_D1, o_cb113, o_cb117, o_D2, o_cb130, o_cb134, r_x12_0, nr_r_x12_0, r_x11_0, nr_r_x11_0, ap_r_x12_0_r_x11_0, ap_r_x11_0_r_x12_0, nb_o_x2_r_x12_0, nb_o_cb23_r_x12_0, nb_o_cb27_r_x12_0, nb_o_cb96_r_x12_0, nb_o_cb100_r_x12_0, nb_o_cb113_r_x12_0, nb_o_cb117_r_x12_0, nb_o_cb130_r_x12_0, nb_o_cb134_r_x12_0, nb_o_x2_r_x11_0, nb_o_cb23_r_x11_0, nb_o_cb27_r_x11_0, nb_o_cb96_r_x11_0, nb_o_cb100_r_x11_0, nb_o_cb113_r_x11_0, nb_o_cb117_r_x11_0, nb_o_cb130_r_x11_0, nb_o_cb134_r_x11_0, hb, ?_, ?_⟩
            · exact pb
            · rw [pa]; simp
          · intro K A hi hsz o_D3
            obtain ⟨B, A_, v_x12_0, v_x11_0, o_x2, o_x4, o_x5, o_x6, o_cb23, o_cb27, o_D0, o_x11, o_x12, o_cb96, o_cb100, o_D1, o_cb113, o_cb117, o_D2, o_cb130, o_cb134, r_x12_0, nr_r_x12_0, r_x11_0, nr_r_x11_0, ap_r_x12_0_r_x11_0, ap_r_x11_0_r_x12_0, nb_o_x2_r_x12_0, nb_o_cb23_r_x12_0, nb_o_cb27_r_x12_0, nb_o_cb96_r_x12_0, nb_o_cb100_r_x12_0, nb_o_cb113_r_x12_0, nb_o_cb117_r_x12_0, nb_o_cb130_r_x12_0, nb_o_cb134_r_x12_0, nb_o_x2_r_x11_0, nb_o_cb23_r_x11_0, nb_o_cb27_r_x11_0, nb_o_cb96_r_x11_0, nb_o_cb100_r_x11_0, nb_o_cb113_r_x11_0, nb_o_cb117_r_x11_0, nb_o_cb130_r_x11_0, nb_o_cb134_r_x11_0, hb, pb, pa⟩ := hi
            have ne_x2_D3 : b1 ≠ w131.heap.size := Nat.ne_of_lt lt_x2_3
            have ne_D3_x2 := ne_x2_D3.symm
            have ne_x4_D3 : b4 ≠ w131.heap.size := Nat.ne_of_lt lt_x4_3
            have ne_D3_x4 := ne_x4_D3.symm
            have ne_x5_D3 : b10 ≠ w131.heap.size := Nat.ne_of_lt lt_x5_3
            have ne_D3_x5 := ne_x5_D3.symm
            have ne_x6_D3 : b15 ≠ w131.heap.size := Nat.ne_of_lt lt_x6_3
            have ne_D3_x6 := ne_x6_D3.symm
            have ne_cb23_D3 : cb23 ≠ w131.heap.size := Nat.ne_of_lt lt_cb23_3
            have ne_D3_cb23 := ne_cb23_D3.symm
            have ne_cb27_D3 : cb27 ≠ w131.heap.size := Nat.ne_of_lt lt_cb27_3
            have ne_D3_cb27 := ne_cb27_D3.symm
            have ne_D0_D3 : w24.heap.size ≠ w131.heap.size := Nat.ne_of_lt lt_D0_3
            have ne_D3_D0 := ne_D0_D3.symm
            have ne_x11_D3 : b87 ≠ w131.heap.size := Nat.ne_of_lt lt_x11_3
            have ne_D3_x11 := ne_x11_D3.symm
            have ne_x12_D3 : b90 ≠ w131.heap.size := Nat.ne_of_lt lt_x12_3
            have ne_D3_x12 := ne_x12_D3.symm
            have ne_cb96_D3 : cb96 ≠ w131.heap.size := Nat.ne_of_lt lt_cb96_3
            have ne_D3_cb96 := ne_cb96_D3.symm
            have ne_cb100_D3 : cb100 ≠ w131.heap.size := Nat.ne_of_lt lt_cb100_3
            have ne_D3_cb100 := ne_cb100_D3.symm
            have ne_D1_D3 : w97.heap.size ≠ w131.heap.size := Nat.ne_of_lt lt_D1_3
            have ne_D3_D1 := ne_D1_D3.symm
            have ne_cb113_D3 : cb113 ≠ w131.heap.size := Nat.ne_of_lt lt_cb113_3
            have ne_D3_cb113 := ne_cb113_D3.symm
            have ne_cb117_D3 : cb117 ≠ w131.heap.size := Nat.ne_of_lt lt_cb117_3
            have ne_D3_cb117 := ne_cb117_D3.symm
            have ne_D2_D3 : w114.heap.size ≠ w131.heap.size := Nat.ne_of_lt lt_D2_3
            have ne_D3_D2 := ne_D2_D3.symm
            have ne_cb130_D3 : cb130 ≠ w131.heap.size := Nat.ne_of_lt lt_cb130_3
            have ne_D3_cb130 := ne_cb130_D3.symm
            have ne_cb134_D3 : cb134 ≠ w131.heap.size := Nat.ne_of_lt lt_cb134_3
            have ne_D3_cb134 := ne_cb134_D3.symm
            have hs : w.heap.size ≤ _ := hb.size
            refine blkQ_normal (thenQ_normal (W_seq (W_seq (W_region (L_load b87 0 v_x11_0 (by kernel_rfl) (by kernel_rfl) (cell_obj o_x11 rfl) (L_len 43 9 (A_).length v_x11_0 rfl Try.underlying43 (r_x11_0.rd).len (by kernel_rfl) (L_load b90 0 v_x12_0 (by kernel_rfl) (by kernel_rfl) (cell_obj o_x12 rfl) (L_len 43 9 (B).length v_x12_0 rfl Try.underlying43 (r_x12_0.rd).len (by kernel_rfl) (L_cmp .i64 (((A_).length : Nat) : Int) (((B).length : Nat) : Int) ((A_).length ≠ (B).length) rfl (cmpN_ne ((A_).length) ((B).length)) (by kernel_rfl) (by kernel_rfl) ?_ ?_)))))))))
            · intro h144
              replace h144 : (A_).length ≠ (B).length := by omega
              exfalso; exact h144 (by rw [pa, pb, seps a b])
            · intro h145
              replace h145 : (A_).length = (B).length := by omega
              refine L_nil (thenQ_normal (W_false (by kernel_rfl) (W_skip (thenQ_normal (W_seq (W_seq (W_region (L_as (L_nil (thenQ_normal (W_block ?_)))))))))))
              refine W_loop (fun m s0 w0 => ∃ (i : Nat), (m = A_.length - i) ∧ (s0.ds = [⟨.collected w131.heap.size, #[]⟩, ⟨.collected w114.heap.size, #[]⟩, ⟨.collected w97.heap.size, #[]⟩, ⟨.collected w24.heap.size, #[]⟩]) ∧ (s0.f 4 = (.pointer (some ⟨b4, 0, none⟩))) ∧ (s0.f 11 = (.pointer (some ⟨b87, 0, none⟩))) ∧ (s0.f 12 = (.pointer (some ⟨b90, 0, none⟩))) ∧ (s0.f 19 = (.int .i64 ((i : Nat) : Int))) ∧ (Row w0 w.heap.size 9 1 encStr v_x12_0 B) ∧ (Row w0 w.heap.size 9 1 encStr v_x11_0 A_) ∧ (w0.heap[b1]? = some (.cells [(S a)].toArray 9 (0, 0))) ∧ (w0.heap[b4]? = some (.cells [(.bool false)].toArray 4 (0, 0))) ∧ (w0.heap[b10]? = some (.cells [(.int .i64 en)].toArray 3 (0, 0))) ∧ (w0.heap[b15]? = some (.cells [(.int .i64 ((n : Nat) : Int))].toArray 3 (0, 0))) ∧ (w0.heap[cb23]? = some (.cells [(S a)].toArray 9 (0, 0))) ∧ (w0.heap[cb27]? = some (.cells [(S a)].toArray 9 (0, 0))) ∧ (w0.heap[w24.heap.size]? = some (.deferred (some []))) ∧ (w0.heap[b87]? = some (.cells [v_x11_0].toArray 43 (0, 0))) ∧ (w0.heap[b90]? = some (.cells [v_x12_0].toArray 43 (0, 0))) ∧ (w0.heap[cb96]? = some (.cells [(S a)].toArray 9 (0, 0))) ∧ (w0.heap[cb100]? = some (.cells [(S a)].toArray 9 (0, 0))) ∧ (w0.heap[w97.heap.size]? = some (.deferred (some []))) ∧ (w0.heap[cb113]? = some (.cells [(S b)].toArray 9 (0, 0))) ∧ (w0.heap[cb117]? = some (.cells [(S b)].toArray 9 (0, 0))) ∧ (w0.heap[w114.heap.size]? = some (.deferred (some []))) ∧ (w0.heap[cb130]? = some (.cells [(S ((a ++ ([32] : List UInt8)) ++ b))].toArray 9 (0, 0))) ∧ (w0.heap[cb134]? = some (.cells [(S ((a ++ ([32] : List UInt8)) ++ b))].toArray 9 (0, 0))) ∧ (w0.heap[w131.heap.size]? = some (.deferred (some []))) ∧ (Below w.heap.size w w0) ∧ (w.heap.size ≤ w0.heap.size) ∧ (i ≤ A_.length)) _ ⟨0, rfl, by kernel_rfl, by kernel_rfl, by kernel_rfl, by kernel_rfl, by kernel_rfl, r_x12_0, r_x11_0, o_x2, o_x4, o_x5, o_x6, o_cb23, o_cb27, o_D0, o_x11, o_x12, o_cb96, o_cb100, o_D1, o_cb113, o_cb117, o_D2, o_cb130, o_cb134, o_D3, hb, hs, by omega⟩ ?_
              rintro m146 s147 w148 ⟨i, hm, hds, f_4, f_11, f_12, f_19, r_x12_0, r_x11_0, o_x2, o_x4, o_x5, o_x6, o_cb23, o_cb27, o_D0, o_x11, o_x12, o_cb96, o_cb100, o_D1, o_cb113, o_cb117, o_D2, o_cb130, o_cb134, o_D3, hb, hs, i1⟩
              refine W_set 4 _ f_4 (W_set 11 _ f_11 (W_set 12 _ f_12 (W_set 19 _ f_19 ?_)))
              clear f_4 f_11 f_12 f_19
              have hAl : A_.length ≤ 1048578 := by rw [pa, List.length_map]; have hw := words_le ((a ++ [32]) ++ b); have hcl : ((a ++ [32]) ++ b).length = a.length + 1 + b.length := (by simp only [List.length_append, List.length_cons, List.length_nil]); omega
              refine W_seq (W_seq (W_region (L_mv (L_load b87 0 v_x11_0 (by kernel_rfl) (by kernel_rfl) (cell_obj o_x11 rfl) (L_len 43 9 (A_).length v_x11_0 rfl Try.underlying43 (r_x11_0.rd).len (by kernel_rfl) (L_cmp .i64 ((i : Nat) : Int) (((A_).length : Nat) : Int) (i < (A_).length) rfl (cmpN_lt i ((A_).length)) (by kernel_rfl) (by kernel_rfl) ?_ ?_))))))
              · intro h149
                replace h149 : i < (A_).length := by omega
                refine L_nil (thenQ_normal (W_true (by kernel_rfl) (W_skip (thenQ_normal (W_seq (W_block (W_seq (W_quiet (by kernel_rfl) (by kernel_rfl) (Lq_load b87 0 v_x11_0 (by kernel_rfl) (fun _ => by kernel_rfl) (cell_obj o_x11 rfl) (Lq_mv ?_))))))))))
                have hz := get_some A_ i (by first | omega | (simp only [List.length_drop, List.length_take, List.length_append, List.length_cons, List.length_nil]; omega)); obtain ⟨x150, hx151⟩ := hz
                have hz := (r_x11_0.rd).at (k := 1) (fun _ => rfl) hx151
                obtain ⟨g152, off153, hl154, hc155⟩ := hz
                refine Lq_ixaddr (k := .i64) v_x11_0 i _ g152 off153 el43 hl154 (by first | omega | (simp only [List.length_drop, List.length_take, List.length_append, List.length_cons, List.length_nil]; omega)) (by kernel_rfl) (by kernel_rfl) (Lq_load g152 (off153 + i * 1) (S x150) (by kernel_rfl) (fun _ => by kernel_rfl) (hc155 0 _ rfl) (Lq_load b90 0 v_x12_0 (by kernel_rfl) (fun _ => by kernel_rfl) (cell_obj o_x12 rfl) (Lq_mv ?_)))
                have hz := get_some B i (by first | omega | (simp only [List.length_drop, List.length_take, List.length_append, List.length_cons, List.length_nil]; omega)); obtain ⟨x156, hx157⟩ := hz
                have hz := (r_x12_0.rd).at (k := 1) (fun _ => rfl) hx157
                obtain ⟨g158, off159, hl160, hc161⟩ := hz
                refine Lq_ixaddr (k := .i64) v_x12_0 i _ g158 off159 el43 hl160 (by first | omega | (simp only [List.length_drop, List.length_take, List.length_append, List.length_cons, List.length_nil]; omega)) (by kernel_rfl) (by kernel_rfl) (Lq_load g158 (off159 + i * 1) (S x156) (by kernel_rfl) (fun _ => by kernel_rfl) (hc161 0 _ rfl) (Lq_sne x150 x156 rfl (by kernel_rfl) (by kernel_rfl) ?_ ?_))
                · intro h162
                  exfalso; exact ne_at (a := A_) (b := B) (by assumption) (by assumption) h162 (by rw [pa, pb, seps a b])
                · intro h163
                  refine Lq_nil ?_
                  intro w164 hB165
                  replace hb := hb.trans (hB165.mono hs)
                  replace hs := Nat.le_trans hs (hB165.size)
                  replace o_x2 := obj_below o_x2 hB165
                  replace o_x4 := obj_below o_x4 hB165
                  replace o_x5 := obj_below o_x5 hB165
                  replace o_x6 := obj_below o_x6 hB165
                  replace o_cb23 := obj_below o_cb23 hB165
                  replace o_cb27 := obj_below o_cb27 hB165
                  replace o_D0 := obj_below o_D0 hB165
                  replace o_x11 := obj_below o_x11 hB165
                  replace o_x12 := obj_below o_x12 hB165
                  replace o_cb96 := obj_below o_cb96 hB165
                  replace o_cb100 := obj_below o_cb100 hB165
                  replace o_D1 := obj_below o_D1 hB165
                  replace o_cb113 := obj_below o_cb113 hB165
                  replace o_cb117 := obj_below o_cb117 hB165
                  replace o_D2 := obj_below o_D2 hB165
                  replace o_cb130 := obj_below o_cb130 hB165
                  replace o_cb134 := obj_below o_cb134 hB165
                  replace o_D3 := obj_below o_D3 hB165
                  replace r_x12_0 := r_x12_0.below hB165
                  replace r_x11_0 := r_x11_0.below hB165
                  refine thenQ_normal (W_false (by kernel_rfl) (W_skip (blkQ_normal (thenQ_normal (W_region (L_mv (L_addN i 1 (by omega) (by kernel_rfl) (by kernel_rfl) (L_as (L_nil ?_)))))))))
                  refine thenQ_normal ⟨_, ?_, (i + 1), rfl, hds, by kernel_rfl, by kernel_rfl, by kernel_rfl, by kernel_rfl, r_x12_0, r_x11_0, o_x2, o_x4, o_x5, o_x6, o_cb23, o_cb27, o_D0, o_x11, o_x12, o_cb96, o_cb100, o_D1, o_cb113, o_cb117, o_D2, o_cb130, o_cb134, o_D3, hb, hs, ?_⟩
                  · omega
                  · omega
              · intro h166
                replace h166 : (A_).length ≤ i := by omega
                refine L_nil (thenQ_normal (W_false (by kernel_rfl) (W_exit (thenQ_exit (thenQ_exit (blkQ_exit (thenQ_normal (W_seq (W_region (L_call 15 [] (by kernel_rfl) (by kernel_rfl) (c_furrowlaw05_awake  _ ) ?_))))))))))
                rintro _ w167 ⟨rfl, hB168⟩
                replace hb := hb.trans (hB168.mono hs)
                replace hs := Nat.le_trans hs (hB168.size)
                replace o_x2 := obj_below o_x2 hB168
                replace o_x4 := obj_below o_x4 hB168
                replace o_x5 := obj_below o_x5 hB168
                replace o_x6 := obj_below o_x6 hB168
                replace o_cb23 := obj_below o_cb23 hB168
                replace o_cb27 := obj_below o_cb27 hB168
                replace o_D0 := obj_below o_D0 hB168
                replace o_x11 := obj_below o_x11 hB168
                replace o_x12 := obj_below o_x12 hB168
                replace o_cb96 := obj_below o_cb96 hB168
                replace o_cb100 := obj_below o_cb100 hB168
                replace o_D1 := obj_below o_D1 hB168
                replace o_cb113 := obj_below o_cb113 hB168
                replace o_cb117 := obj_below o_cb117 hB168
                replace o_D2 := obj_below o_D2 hB168
                replace o_cb130 := obj_below o_cb130 hB168
                replace o_cb134 := obj_below o_cb134 hB168
                replace o_D3 := obj_below o_D3 hB168
                replace r_x12_0 := r_x12_0.below hB168
                replace r_x11_0 := r_x11_0.below hB168
                refine L_store b4 0 (.bool true) [(.bool false)] [(.bool true)] 4 (by kernel_rfl) (by kernel_rfl) rfl (by kernel_rfl) o_x4 (by simp) rfl ?_
                intro w170 hW171
                replace hb := hb.trans (hW171.below g_x4)
                replace hs := Nat.le_trans hs (Nat.le_of_eq hW171.size.symm)
                have n_o_x2 := obj_wrote o_x2 hW171 (obj_ne o_x2 o_x4 (by simp))
                have n_o_x5 := obj_wrote o_x5 hW171 (obj_ne o_x5 o_x4 (by simp))
                have n_o_x6 := obj_wrote o_x6 hW171 (obj_ne o_x6 o_x4 (by simp))
                have n_o_cb23 := obj_wrote o_cb23 hW171 (obj_ne o_cb23 o_x4 (by simp))
                have n_o_cb27 := obj_wrote o_cb27 hW171 (obj_ne o_cb27 o_x4 (by simp))
                have n_o_D0 := obj_wrote o_D0 hW171 (obj_ne o_D0 o_x4 (by simp))
                have n_o_x11 := obj_wrote o_x11 hW171 (obj_ne o_x11 o_x4 (by simp))
                have n_o_x12 := obj_wrote o_x12 hW171 (obj_ne o_x12 o_x4 (by simp))
                have n_o_cb96 := obj_wrote o_cb96 hW171 (obj_ne o_cb96 o_x4 (by simp))
                have n_o_cb100 := obj_wrote o_cb100 hW171 (obj_ne o_cb100 o_x4 (by simp))
                have n_o_D1 := obj_wrote o_D1 hW171 (obj_ne o_D1 o_x4 (by simp))
                have n_o_cb113 := obj_wrote o_cb113 hW171 (obj_ne o_cb113 o_x4 (by simp))
                have n_o_cb117 := obj_wrote o_cb117 hW171 (obj_ne o_cb117 o_x4 (by simp))
                have n_o_D2 := obj_wrote o_D2 hW171 (obj_ne o_D2 o_x4 (by simp))
                have n_o_cb130 := obj_wrote o_cb130 hW171 (obj_ne o_cb130 o_x4 (by simp))
                have n_o_cb134 := obj_wrote o_cb134 hW171 (obj_ne o_cb134 o_x4 (by simp))
                have n_o_D3 := obj_wrote o_D3 hW171 (obj_ne o_D3 o_x4 (by simp))
                have n_r_x12_0 := r_x12_0.wrote hW171 (r_x12_0.ne o_x4 (by simp))
                have n_r_x11_0 := r_x11_0.wrote hW171 (r_x11_0.ne o_x4 (by simp))
                replace o_x2 := n_o_x2; clear n_o_x2
                replace o_x5 := n_o_x5; clear n_o_x5
                replace o_x6 := n_o_x6; clear n_o_x6
                replace o_cb23 := n_o_cb23; clear n_o_cb23
                replace o_cb27 := n_o_cb27; clear n_o_cb27
                replace o_D0 := n_o_D0; clear n_o_D0
                replace o_x11 := n_o_x11; clear n_o_x11
                replace o_x12 := n_o_x12; clear n_o_x12
                replace o_cb96 := n_o_cb96; clear n_o_cb96
                replace o_cb100 := n_o_cb100; clear n_o_cb100
                replace o_D1 := n_o_D1; clear n_o_D1
                replace o_cb113 := n_o_cb113; clear n_o_cb113
                replace o_cb117 := n_o_cb117; clear n_o_cb117
                replace o_D2 := n_o_D2; clear n_o_D2
                replace o_cb130 := n_o_cb130; clear n_o_cb130
                replace o_cb134 := n_o_cb134; clear n_o_cb134
                replace o_D3 := n_o_D3; clear n_o_D3
                replace r_x12_0 := n_r_x12_0; clear n_r_x12_0
                replace r_x11_0 := n_r_x11_0; clear n_r_x11_0
                replace o_x4 := hW171.here
                refine L_nil (thenQ_normal (W_ret (end_retM (ds := [⟨.collected w131.heap.size, #[]⟩, ⟨.collected w114.heap.size, #[]⟩, ⟨.collected w97.heap.size, #[]⟩, ⟨.collected w24.heap.size, #[]⟩]) hds (Lv_mark o_D3 ?_))))
                intro w172 hW173
                replace hb := hb.trans (hW173.below hs_3)
                replace hs := Nat.le_trans hs (Nat.le_of_eq hW173.size.symm)
                have n_o_x2 := obj_wrote o_x2 hW173 (obj_ne o_x2 o_D3 (by simp))
                have n_o_x4 := obj_wrote o_x4 hW173 (obj_ne o_x4 o_D3 (by simp))
                have n_o_x5 := obj_wrote o_x5 hW173 (obj_ne o_x5 o_D3 (by simp))
                have n_o_x6 := obj_wrote o_x6 hW173 (obj_ne o_x6 o_D3 (by simp))
                have n_o_cb23 := obj_wrote o_cb23 hW173 (obj_ne o_cb23 o_D3 (by simp))
                have n_o_cb27 := obj_wrote o_cb27 hW173 (obj_ne o_cb27 o_D3 (by simp))
                have n_o_D0 := obj_wrote o_D0 hW173 ne_D0_D3
                have n_o_x11 := obj_wrote o_x11 hW173 (obj_ne o_x11 o_D3 (by simp))
                have n_o_x12 := obj_wrote o_x12 hW173 (obj_ne o_x12 o_D3 (by simp))
                have n_o_cb96 := obj_wrote o_cb96 hW173 (obj_ne o_cb96 o_D3 (by simp))
                have n_o_cb100 := obj_wrote o_cb100 hW173 (obj_ne o_cb100 o_D3 (by simp))
                have n_o_D1 := obj_wrote o_D1 hW173 ne_D1_D3
                have n_o_cb113 := obj_wrote o_cb113 hW173 (obj_ne o_cb113 o_D3 (by simp))
                have n_o_cb117 := obj_wrote o_cb117 hW173 (obj_ne o_cb117 o_D3 (by simp))
                have n_o_D2 := obj_wrote o_D2 hW173 ne_D2_D3
                have n_o_cb130 := obj_wrote o_cb130 hW173 (obj_ne o_cb130 o_D3 (by simp))
                have n_o_cb134 := obj_wrote o_cb134 hW173 (obj_ne o_cb134 o_D3 (by simp))
                have n_r_x12_0 := r_x12_0.wrote hW173 (r_x12_0.ne o_D3 (by simp))
                have n_r_x11_0 := r_x11_0.wrote hW173 (r_x11_0.ne o_D3 (by simp))
                replace o_x2 := n_o_x2; clear n_o_x2
                replace o_x4 := n_o_x4; clear n_o_x4
                replace o_x5 := n_o_x5; clear n_o_x5
                replace o_x6 := n_o_x6; clear n_o_x6
                replace o_cb23 := n_o_cb23; clear n_o_cb23
                replace o_cb27 := n_o_cb27; clear n_o_cb27
                replace o_D0 := n_o_D0; clear n_o_D0
                replace o_x11 := n_o_x11; clear n_o_x11
                replace o_x12 := n_o_x12; clear n_o_x12
                replace o_cb96 := n_o_cb96; clear n_o_cb96
                replace o_cb100 := n_o_cb100; clear n_o_cb100
                replace o_D1 := n_o_D1; clear n_o_D1
                replace o_cb113 := n_o_cb113; clear n_o_cb113
                replace o_cb117 := n_o_cb117; clear n_o_cb117
                replace o_D2 := n_o_D2; clear n_o_D2
                replace o_cb130 := n_o_cb130; clear n_o_cb130
                replace o_cb134 := n_o_cb134; clear n_o_cb134
                replace r_x12_0 := n_r_x12_0; clear n_r_x12_0
                replace r_x11_0 := n_r_x11_0; clear n_r_x11_0
                replace o_D3 := hW173.here
                refine Lv_mark o_D2 ?_
                intro w174 hW175
                replace hb := hb.trans (hW175.below hs_2)
                replace hs := Nat.le_trans hs (Nat.le_of_eq hW175.size.symm)
                have n_o_x2 := obj_wrote o_x2 hW175 (obj_ne o_x2 o_D2 (by simp))
                have n_o_x4 := obj_wrote o_x4 hW175 (obj_ne o_x4 o_D2 (by simp))
                have n_o_x5 := obj_wrote o_x5 hW175 (obj_ne o_x5 o_D2 (by simp))
                have n_o_x6 := obj_wrote o_x6 hW175 (obj_ne o_x6 o_D2 (by simp))
                have n_o_cb23 := obj_wrote o_cb23 hW175 (obj_ne o_cb23 o_D2 (by simp))
                have n_o_cb27 := obj_wrote o_cb27 hW175 (obj_ne o_cb27 o_D2 (by simp))
                have n_o_D0 := obj_wrote o_D0 hW175 ne_D0_D2
                have n_o_x11 := obj_wrote o_x11 hW175 (obj_ne o_x11 o_D2 (by simp))
                have n_o_x12 := obj_wrote o_x12 hW175 (obj_ne o_x12 o_D2 (by simp))
                have n_o_cb96 := obj_wrote o_cb96 hW175 (obj_ne o_cb96 o_D2 (by simp))
                have n_o_cb100 := obj_wrote o_cb100 hW175 (obj_ne o_cb100 o_D2 (by simp))
                have n_o_D1 := obj_wrote o_D1 hW175 ne_D1_D2
                have n_o_cb113 := obj_wrote o_cb113 hW175 (obj_ne o_cb113 o_D2 (by simp))
                have n_o_cb117 := obj_wrote o_cb117 hW175 (obj_ne o_cb117 o_D2 (by simp))
                have n_o_cb130 := obj_wrote o_cb130 hW175 (obj_ne o_cb130 o_D2 (by simp))
                have n_o_cb134 := obj_wrote o_cb134 hW175 (obj_ne o_cb134 o_D2 (by simp))
                have n_o_D3 := obj_wrote o_D3 hW175 (obj_ne o_D3 o_D2 (by simp))
                have n_r_x12_0 := r_x12_0.wrote hW175 (r_x12_0.ne o_D2 (by simp))
                have n_r_x11_0 := r_x11_0.wrote hW175 (r_x11_0.ne o_D2 (by simp))
                replace o_x2 := n_o_x2; clear n_o_x2
                replace o_x4 := n_o_x4; clear n_o_x4
                replace o_x5 := n_o_x5; clear n_o_x5
                replace o_x6 := n_o_x6; clear n_o_x6
                replace o_cb23 := n_o_cb23; clear n_o_cb23
                replace o_cb27 := n_o_cb27; clear n_o_cb27
                replace o_D0 := n_o_D0; clear n_o_D0
                replace o_x11 := n_o_x11; clear n_o_x11
                replace o_x12 := n_o_x12; clear n_o_x12
                replace o_cb96 := n_o_cb96; clear n_o_cb96
                replace o_cb100 := n_o_cb100; clear n_o_cb100
                replace o_D1 := n_o_D1; clear n_o_D1
                replace o_cb113 := n_o_cb113; clear n_o_cb113
                replace o_cb117 := n_o_cb117; clear n_o_cb117
                replace o_cb130 := n_o_cb130; clear n_o_cb130
                replace o_cb134 := n_o_cb134; clear n_o_cb134
                replace o_D3 := n_o_D3; clear n_o_D3
                replace r_x12_0 := n_r_x12_0; clear n_r_x12_0
                replace r_x11_0 := n_r_x11_0; clear n_r_x11_0
                replace o_D2 := hW175.here
                refine Lv_mark o_D1 ?_
                intro w176 hW177
                replace hb := hb.trans (hW177.below hs_1)
                replace hs := Nat.le_trans hs (Nat.le_of_eq hW177.size.symm)
                have n_o_x2 := obj_wrote o_x2 hW177 (obj_ne o_x2 o_D1 (by simp))
                have n_o_x4 := obj_wrote o_x4 hW177 (obj_ne o_x4 o_D1 (by simp))
                have n_o_x5 := obj_wrote o_x5 hW177 (obj_ne o_x5 o_D1 (by simp))
                have n_o_x6 := obj_wrote o_x6 hW177 (obj_ne o_x6 o_D1 (by simp))
                have n_o_cb23 := obj_wrote o_cb23 hW177 (obj_ne o_cb23 o_D1 (by simp))
                have n_o_cb27 := obj_wrote o_cb27 hW177 (obj_ne o_cb27 o_D1 (by simp))
                have n_o_D0 := obj_wrote o_D0 hW177 ne_D0_D1
                have n_o_x11 := obj_wrote o_x11 hW177 (obj_ne o_x11 o_D1 (by simp))
                have n_o_x12 := obj_wrote o_x12 hW177 (obj_ne o_x12 o_D1 (by simp))
                have n_o_cb96 := obj_wrote o_cb96 hW177 (obj_ne o_cb96 o_D1 (by simp))
                have n_o_cb100 := obj_wrote o_cb100 hW177 (obj_ne o_cb100 o_D1 (by simp))
                have n_o_cb113 := obj_wrote o_cb113 hW177 (obj_ne o_cb113 o_D1 (by simp))
                have n_o_cb117 := obj_wrote o_cb117 hW177 (obj_ne o_cb117 o_D1 (by simp))
                have n_o_D2 := obj_wrote o_D2 hW177 (obj_ne o_D2 o_D1 (by simp))
                have n_o_cb130 := obj_wrote o_cb130 hW177 (obj_ne o_cb130 o_D1 (by simp))
                have n_o_cb134 := obj_wrote o_cb134 hW177 (obj_ne o_cb134 o_D1 (by simp))
                have n_o_D3 := obj_wrote o_D3 hW177 (obj_ne o_D3 o_D1 (by simp))
                have n_r_x12_0 := r_x12_0.wrote hW177 (r_x12_0.ne o_D1 (by simp))
                have n_r_x11_0 := r_x11_0.wrote hW177 (r_x11_0.ne o_D1 (by simp))
                replace o_x2 := n_o_x2; clear n_o_x2
                replace o_x4 := n_o_x4; clear n_o_x4
                replace o_x5 := n_o_x5; clear n_o_x5
                replace o_x6 := n_o_x6; clear n_o_x6
                replace o_cb23 := n_o_cb23; clear n_o_cb23
                replace o_cb27 := n_o_cb27; clear n_o_cb27
                replace o_D0 := n_o_D0; clear n_o_D0
                replace o_x11 := n_o_x11; clear n_o_x11
                replace o_x12 := n_o_x12; clear n_o_x12
                replace o_cb96 := n_o_cb96; clear n_o_cb96
                replace o_cb100 := n_o_cb100; clear n_o_cb100
                replace o_cb113 := n_o_cb113; clear n_o_cb113
                replace o_cb117 := n_o_cb117; clear n_o_cb117
                replace o_D2 := n_o_D2; clear n_o_D2
                replace o_cb130 := n_o_cb130; clear n_o_cb130
                replace o_cb134 := n_o_cb134; clear n_o_cb134
                replace o_D3 := n_o_D3; clear n_o_D3
                replace r_x12_0 := n_r_x12_0; clear n_r_x12_0
                replace r_x11_0 := n_r_x11_0; clear n_r_x11_0
                replace o_D1 := hW177.here
                refine Lv_mark o_D0 ?_
                intro w178 hW179
                replace hb := hb.trans (hW179.below hs_0)
                replace hs := Nat.le_trans hs (Nat.le_of_eq hW179.size.symm)
                have n_o_x2 := obj_wrote o_x2 hW179 (obj_ne o_x2 o_D0 (by simp))
                have n_o_x4 := obj_wrote o_x4 hW179 (obj_ne o_x4 o_D0 (by simp))
                have n_o_x5 := obj_wrote o_x5 hW179 (obj_ne o_x5 o_D0 (by simp))
                have n_o_x6 := obj_wrote o_x6 hW179 (obj_ne o_x6 o_D0 (by simp))
                have n_o_cb23 := obj_wrote o_cb23 hW179 (obj_ne o_cb23 o_D0 (by simp))
                have n_o_cb27 := obj_wrote o_cb27 hW179 (obj_ne o_cb27 o_D0 (by simp))
                have n_o_x11 := obj_wrote o_x11 hW179 (obj_ne o_x11 o_D0 (by simp))
                have n_o_x12 := obj_wrote o_x12 hW179 (obj_ne o_x12 o_D0 (by simp))
                have n_o_cb96 := obj_wrote o_cb96 hW179 (obj_ne o_cb96 o_D0 (by simp))
                have n_o_cb100 := obj_wrote o_cb100 hW179 (obj_ne o_cb100 o_D0 (by simp))
                have n_o_D1 := obj_wrote o_D1 hW179 (obj_ne o_D1 o_D0 (by simp))
                have n_o_cb113 := obj_wrote o_cb113 hW179 (obj_ne o_cb113 o_D0 (by simp))
                have n_o_cb117 := obj_wrote o_cb117 hW179 (obj_ne o_cb117 o_D0 (by simp))
                have n_o_D2 := obj_wrote o_D2 hW179 (obj_ne o_D2 o_D0 (by simp))
                have n_o_cb130 := obj_wrote o_cb130 hW179 (obj_ne o_cb130 o_D0 (by simp))
                have n_o_cb134 := obj_wrote o_cb134 hW179 (obj_ne o_cb134 o_D0 (by simp))
                have n_o_D3 := obj_wrote o_D3 hW179 (obj_ne o_D3 o_D0 (by simp))
                have n_r_x12_0 := r_x12_0.wrote hW179 (r_x12_0.ne o_D0 (by simp))
                have n_r_x11_0 := r_x11_0.wrote hW179 (r_x11_0.ne o_D0 (by simp))
                replace o_x2 := n_o_x2; clear n_o_x2
                replace o_x4 := n_o_x4; clear n_o_x4
                replace o_x5 := n_o_x5; clear n_o_x5
                replace o_x6 := n_o_x6; clear n_o_x6
                replace o_cb23 := n_o_cb23; clear n_o_cb23
                replace o_cb27 := n_o_cb27; clear n_o_cb27
                replace o_x11 := n_o_x11; clear n_o_x11
                replace o_x12 := n_o_x12; clear n_o_x12
                replace o_cb96 := n_o_cb96; clear n_o_cb96
                replace o_cb100 := n_o_cb100; clear n_o_cb100
                replace o_D1 := n_o_D1; clear n_o_D1
                replace o_cb113 := n_o_cb113; clear n_o_cb113
                replace o_cb117 := n_o_cb117; clear n_o_cb117
                replace o_D2 := n_o_D2; clear n_o_D2
                replace o_cb130 := n_o_cb130; clear n_o_cb130
                replace o_cb134 := n_o_cb134; clear n_o_cb134
                replace o_D3 := n_o_D3; clear n_o_D3
                replace r_x12_0 := n_r_x12_0; clear n_r_x12_0
                replace r_x11_0 := n_r_x11_0; clear n_r_x11_0
                replace o_D0 := hW179.here
                refine Lv_nil [.cell 4 4] [(.bool true)] rfl ⟨⟨⟨b4, 0, none⟩, by kernel_rfl, load_one (by kernel_rfl) (cell_obj o_x4 rfl)⟩, trivial⟩ ?_
                have e0 : true = true := by first | rfl | (exfalso; omega) | (exfalso; simp_all; done)
                exact ⟨congrArg Value.bool e0, hb⟩
          · intro K c _ x A _ h; exact h.elim
        · intro K c _ x A _ h; exact h.elim
      · intro K c _ x A _ h; exact h.elim
    · intro h180
      exfalso; have hen : en.toNat = endOf (wordsOf a) := (by omega); rw [hen] at h180; exact Bool.false_ne_true (h180.symm.trans hff.1)
  · intro K c _ x A _ h; exact h.elim

end Go.Proofs.Ytbknjmjflfkhkaa
