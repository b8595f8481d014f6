/- Walks, written by my program walk.py out of the specification leach.py: each theorem says what one function returns and that it leaves memory as it was. -/
import Derived.Test.YtapndpldphflcaaDoorPLeach
import Derived.Test.YtapndpldphflcaaDoorWllines
import Derived.Test.YtapndpldphflcaaDoorWlscan
import Derived.Test.YtapndpldphflcaaDoorWlread
import Derived.Test.YtapndpldphflcaaDoorWlawake
import Derived.Test.YtapndpldphflcaaDoorWlref
import Derived.Test.YtapndpldphflcaaDoorFKu
import Derived.Test.YtapndpldphflcaaDoorProg
import Derived.Tactics2
namespace Go.Proofs.YtapndpldphflcaaDoor
open Go Go.RowKit Go.FK
set_option linter.unusedVariables false

theorem el28 : Elem Tryd.prog 28 31 2 24 := ⟨Tryd.underlying28, by kernel_rfl, rfl⟩
set_option maxHeartbeats 4000000 in
set_option maxRecDepth 100000 in
theorem c_furrowlaw03_all (s : List UInt8) (few : Int) (w : World) (hs : s.length ≤ 1048576) :
    Calls Tryd.prog 19 #[(S s), (.int .i64 few)] w (Ret fun v w' => ∃ (q0 : Value), v = q0 ∧ Row w' w.heap.size 31 2 encTold q0 (allF s few) ∧ Below w.heap.size w w') := by
  refine enterM (args := [(S s), (.int .i64 few)]) Tryd.func19 rfl (by kernel_rfl : _ = 23) (by kernel_rfl) ?_
  have hb := Below.refl w.heap.size w
  have hs : w.heap.size ≤ w.heap.size := Nat.le_refl _
  refine W_seq (W_region (L_new (fun b => .pointer (some ⟨b, 0, none⟩)) (.cells [(.int .i64 few)].toArray 3 (0, 0)) (by kernel_rfl) (by kernel_rfl) ?_))
  intro b1 w2 hN3
  have g_x3 : w.heap.size ≤ b1 := by rw [hN3.num]; exact hs
  replace hb := hb.trans (hN3.below.mono hs)
  replace hs := Nat.le_trans hs (hN3.below.size)
  have o_x3 := hN3.here
  refine L_as (L_nil (thenQ_normal (W_seq (W_region (L_new (fun b => .pointer (some ⟨b, 0, none⟩)) (.cells [(.slice none 0 0)].toArray 28 (0, 0)) (by kernel_rfl) (by kernel_rfl) ?_)))))
  intro b4 w5 hN6
  have ne_x3_x5 : b1 ≠ b4 := by have := obj_lt o_x3; have := hN6.num; omega
  have ne_x5_x3 := ne_x3_x5.symm
  have g_x5 : w.heap.size ≤ b4 := by rw [hN6.num]; exact hs
  replace hb := hb.trans (hN6.below.mono hs)
  replace hs := Nat.le_trans hs (hN6.below.size)
  replace o_x3 := obj_below o_x3 hN6.below
  have o_x5 := hN6.here
  refine L_nil (thenQ_normal (W_seq (W_seq (W_region (L_mv (L_call 18 [(S s)] (by kernel_rfl) (by kernel_rfl) (c_lines_Each s _ ) ?_))))))
  rintro _ w7 ⟨cb10, rfl, o_cb10, g_cb10, hB8⟩
  have ne_x3_cb10 : b1 ≠ cb10 := by have := obj_lt o_x3; omega
  have ne_cb10_x3 := ne_x3_cb10.symm
  have ne_x5_cb10 : b4 ≠ cb10 := by have := obj_lt o_x5; omega
  have ne_cb10_x5 := ne_x5_cb10.symm
  replace g_cb10 := Nat.le_trans hs g_cb10
  replace hb := hb.trans (hB8.mono hs)
  replace hs := Nat.le_trans hs (hB8.size)
  replace o_x3 := obj_below o_x3 hB8
  replace o_x5 := obj_below o_x5 hB8
  refine L_nil (thenQ_normal (W_block ?_))
  have lt_x3_0 : b1 < w7.heap.size := obj_lt o_x3
  have lt_x5_0 : b4 < w7.heap.size := obj_lt o_x5
  have lt_cb10_0 : cb10 < w7.heap.size := obj_lt o_cb10
  have hs_0 := hs
  have hb_0 := hb
  refine W_range 43 [(.pointer (some ⟨cb10, 0, none⟩))] (toldF s) (by kernel_rfl) (fun _ _ => rfl) (it_lines_Each_1 cb10 s (by omega)) o_cb10 ((fun D A B h hc hd => obj_ch h hc (fun h => Nat.not_lt.2 (hd _ h) lt_cb10_0))) (by intro x; rfl) (fun K pre A => ∃ (acc : List (Int × List UInt8)) (v_x5_0 : Value), (A.heap[b1]? = some (.cells [(.int .i64 few)].toArray 3 (0, 0))) ∧ (A.heap[b4]? = some (.cells [v_x5_0].toArray 28 (0, 0))) ∧ (A.heap[cb10]? = some (.cells [(S s)].toArray 9 (0, 0))) ∧ (Row A w.heap.size 31 2 encTold v_x5_0 acc) ∧ (∀ g, Value.ownBlock v_x5_0 = some g → ¬ Iv w7.heap.size K g) ∧ (Below w.heap.size w A) ∧ (acc = pre) ∧ (few < 1 ∨ (pre.length : Int) < few)) (fun K c pre A => (∃ (acc : List (Int × List UInt8)) (v_x5_0 : Value), (c = .exit 0) ∧ (A.heap[b1]? = some (.cells [(.int .i64 few)].toArray 3 (0, 0))) ∧ (A.heap[b4]? = some (.cells [v_x5_0].toArray 28 (0, 0))) ∧ (A.heap[cb10]? = some (.cells [(S s)].toArray 9 (0, 0))) ∧ (Row A w.heap.size 31 2 encTold v_x5_0 acc) ∧ (∀ g, Value.ownBlock v_x5_0 = some g → ¬ Iv w7.heap.size K g) ∧ (Below w.heap.size w A) ∧ (acc = pre) ∧ ((pre.length : Int) = few) ∧ (0 < pre.length))) ?_ ?_ ?_ ?_ ?_ ?_
  · intro A hA
    exact ⟨[], (.slice none 0 0), obj_below o_x3 hA, obj_below o_x5 hA, obj_below o_cb10 hA, Row.nil _ _ _ _ _, nr_nil _ _, hb.trans (hA.mono hs), by rfl, by simp only [List.length_nil]; omega⟩
  · rintro K pre A B ⟨acc, v_x5_0, o_x3, o_x5, o_cb10, r_x5_0, nr_r_x5_0, hb, p1, p2⟩ hc
    exact ⟨acc, v_x5_0, obj_ch o_x3 hc (fun h => Nat.not_lt.2 h.1 lt_x3_0), obj_ch o_x5 hc (fun h => Nat.not_lt.2 h.1 lt_x5_0), obj_ch o_cb10 hc (fun h => Nat.not_lt.2 h.1 lt_cb10_0), r_x5_0.ch hc nr_r_x5_0, nr_r_x5_0, hc.below hb hb.size (fun k h => Nat.le_trans hs_0 h.1), p1, p2⟩
  · rintro K c pre A B (⟨acc, v_x5_0, hcc, o_x3, o_x5, o_cb10, r_x5_0, nr_r_x5_0, hb, q1, q2, q3⟩) hc
    exact ⟨acc, v_x5_0, hcc, obj_ch o_x3 hc (fun h => Nat.not_lt.2 h.1 lt_x3_0), obj_ch o_x5 hc (fun h => Nat.not_lt.2 h.1 lt_x5_0), obj_ch o_cb10 hc (fun h => Nat.not_lt.2 h.1 lt_cb10_0), r_x5_0.ch hc nr_r_x5_0, nr_r_x5_0, hc.below hb hb.size (fun k h => Nat.le_trans hs_0 h.1), q1, q2, q3⟩
  · intro l K pre x A hi hN hK0 hK hpre
    obtain ⟨acc, v_x5_0, o_x3, o_x5, o_cb10, r_x5_0, nr_r_x5_0, hb, p1, p2⟩ := hi
    have hs := hb.size
    have hk := Kp.refl (w7.heap.size) K A
    have nv_x3 : ¬ Iv (w7.heap.size) K b1 := fun h => Nat.not_lt.2 h.1 lt_x3_0
    have nv_x5 : ¬ Iv (w7.heap.size) K b4 := fun h => Nat.not_lt.2 h.1 lt_x5_0
    have nv_cb10 : ¬ Iv (w7.heap.size) K cb10 := fun h => Nat.not_lt.2 h.1 lt_cb10_0
    replace o_cb10 := hN
    have hpl := pre_lt hpre
    have htl := told_len s
    have hsh := told_short (pre_mem hpre)
    have hal : acc.length = pre.length := by rw [p1]
    refine W_seq (W_region (L_as (L_nil (thenQ_normal (W_region (L_as (L_nil ?_)))))))
    refine thenQ_normal ⟨hk, ?_⟩
    intro w11 hc12
    replace o_x3 := obj_ch o_x3 hc12 nv_x3
    replace o_x5 := obj_ch o_x5 hc12 nv_x5
    replace o_cb10 := obj_ch o_cb10 hc12 nv_cb10
    replace r_x5_0 := r_x5_0.ch hc12 nr_r_x5_0
    replace hb := hc12.below hb hs (fun k h => Nat.le_trans hs_0 h.1)
    replace hs := hb.size
    replace hK := Nat.le_trans hK hc12.size
    replace hk := Kp.refl (w7.heap.size) K w11
    refine W_block (W_seq (W_region (L_load b4 0 v_x5_0 (by kernel_rfl) (by kernel_rfl) (cell_obj o_x5 rfl) (L_mv (L_mv (L_run (Value.agg #[(.int .i64 x.1), (S x.2)]) (by kernel_rfl) (by kernel_rfl) (L_app el28 w.heap.size v_x5_0 acc (x.1, x.2) hs r_x5_0 (by omega) (by kernel_rfl) rfl rfl (by kernel_rfl) rfl (by kernel_rfl) (by kernel_rfl) ?_)))))))
    intro v13 w14 hr15 hg16 how17
    have nr2 := nr_app how17 nr_r_x5_0 hK
    replace hb := hb.grown hg16 hs (fun k hk => (World.ownsRow.lt r_x5_0 k hk).1)
    replace hk := hk.ch (Ch.of_grown hg16) hK (fun k e => nr_r_x5_0 k e)
    replace hK := Nat.le_trans hK (hg16.size)
    replace hs := Nat.le_trans hs (hg16.size)
    have n_o_x3 := obj_grown o_x3 hg16 (r_x5_0.ne o_x3 (by simp))
    have n_o_x5 := obj_grown o_x5 hg16 (r_x5_0.ne o_x5 (by simp))
    have n_o_cb10 := obj_grown o_cb10 hg16 (r_x5_0.ne o_cb10 (by simp))
    replace o_x3 := n_o_x3; clear n_o_x3
    replace o_x5 := n_o_x5; clear n_o_x5
    replace o_cb10 := n_o_cb10; clear n_o_cb10
    replace r_x5_0 := hr15
    have nr_r_x5_0 := nr2; clear nr2
    refine L_store b4 0 v13 [v_x5_0] [v13] 28 (by kernel_rfl) (by kernel_rfl) r_x5_0.one (by kernel_rfl) o_x5 (by simp) rfl ?_
    intro w18 hW19
    replace hb := hb.trans (hW19.below g_x5)
    replace hk := hk.ch (Ch.of_wrote hW19) hK (fun k e h => nv_x5 (e ▸ h))
    replace hK := Nat.le_trans hK (Nat.le_of_eq hW19.size.symm)
    replace hs := Nat.le_trans hs (Nat.le_of_eq hW19.size.symm)
    have n_o_x3 := obj_wrote o_x3 hW19 (obj_ne o_x3 o_x5 (by simp))
    have n_o_cb10 := obj_wrote o_cb10 hW19 (obj_ne o_cb10 o_x5 (by simp))
    have n_r_x5_0 := r_x5_0.wrote hW19 (r_x5_0.ne o_x5 (by simp))
    replace o_x3 := n_o_x3; clear n_o_x3
    replace o_cb10 := n_o_cb10; clear n_o_cb10
    replace r_x5_0 := n_r_x5_0; clear n_r_x5_0
    replace o_x5 := hW19.here
    refine L_nil (thenQ_normal (W_seq (W_region (L_load b4 0 v13 (by kernel_rfl) (by kernel_rfl) (cell_obj o_x5 rfl) (L_len 28 31 ((acc ++ [(x.1, x.2)])).length v13 rfl Tryd.underlying28 (r_x5_0.rd).len (by kernel_rfl) (L_load b1 0 (.int .i64 few) (by kernel_rfl) (by kernel_rfl) (cell_obj o_x3 rfl) (L_cmp .i64 ((((acc ++ [(x.1, x.2)])).length : Nat) : Int) few (((((acc ++ [(x.1, x.2)])).length : Nat) : Int) = few) rfl (cmp_eq ((((acc ++ [(x.1, x.2)])).length : Nat) : Int) few) (by kernel_rfl) (by kernel_rfl) ?_ ?_)))))))
    · intro h20
      replace h20 : ((((acc ++ [(x.1, x.2)])).length : Nat) : Int) = few := by omega
      refine L_nil (thenQ_normal (W_true (by kernel_rfl) (W_exit (blkQ_exit_other (by kernel_rfl) ?_))))
      refine round_exit hk (⟨(acc ++ [(x.1, x.2)]), v13, rfl, o_x3, o_x5, o_cb10, r_x5_0, nr_r_x5_0, hb, ?_, ?_, ?_⟩)
      · rw [p1]
      · simp only [List.length_append, List.length_cons, List.length_nil] at *; omega
      · simp
    · intro h21
      replace h21 : ((((acc ++ [(x.1, x.2)])).length : Nat) : Int) ≠ few := by omega
      refine L_nil (thenQ_normal (W_false (by kernel_rfl) (W_skip (blkQ_normal ?_))))
      refine round_normal hk o_cb10 ⟨(acc ++ [(x.1, x.2)]), v13, o_x3, o_x5, o_cb10, r_x5_0, nr_r_x5_0, hb, ?_, ?_⟩
      · rw [p1]
      · have hx : (acc ++ [(x.1, x.2)]).length = pre.length + 1 := (by simp [p1]); simp only [List.length_append, List.length_cons, List.length_nil] at *; omega
  · intro K A hi hsz o_D0
    obtain ⟨acc, v_x5_0, o_x3, o_x5, o_cb10, r_x5_0, nr_r_x5_0, hb, p1, p2⟩ := hi
    have ne_x3_D0 : b1 ≠ w7.heap.size := Nat.ne_of_lt lt_x3_0
    have ne_D0_x3 := ne_x3_D0.symm
    have ne_x5_D0 : b4 ≠ w7.heap.size := Nat.ne_of_lt lt_x5_0
    have ne_D0_x5 := ne_x5_D0.symm
    have ne_cb10_D0 : cb10 ≠ w7.heap.size := Nat.ne_of_lt lt_cb10_0
    have ne_D0_cb10 := ne_cb10_D0.symm
    have hs : w.heap.size ≤ _ := hb.size
    refine blkQ_normal (thenQ_normal (W_seq (W_region (L_load b4 0 v_x5_0 (by kernel_rfl) (by kernel_rfl) (cell_obj o_x5 rfl) (L_as (L_nil (thenQ_normal (W_ret (end_retM (ds := [⟨.collected w7.heap.size, #[]⟩]) (by kernel_rfl) (Lv_mark o_D0 ?_))))))))))
    intro w22 hW23
    replace hb := hb.trans (hW23.below hs_0)
    replace hs := Nat.le_trans hs (Nat.le_of_eq hW23.size.symm)
    have n_o_x3 := obj_wrote o_x3 hW23 (obj_ne o_x3 o_D0 (by simp))
    have n_o_x5 := obj_wrote o_x5 hW23 (obj_ne o_x5 o_D0 (by simp))
    have n_o_cb10 := obj_wrote o_cb10 hW23 (obj_ne o_cb10 o_D0 (by simp))
    have n_r_x5_0 := r_x5_0.wrote hW23 (r_x5_0.ne o_D0 (by simp))
    replace o_x3 := n_o_x3; clear n_o_x3
    replace o_x5 := n_o_x5; clear n_o_x5
    replace o_cb10 := n_o_cb10; clear n_o_cb10
    replace r_x5_0 := n_r_x5_0; clear n_r_x5_0
    replace o_D0 := hW23.here
    refine Lv_nil [.tmp 4] [v_x5_0] rfl ⟨by kernel_rfl, trivial⟩ ?_
    have e51 : acc = allF s few := by first | (rw [p1]; exact all_done (by omega)) | (rw [q1]; exact all_stop hpre q2 q3)
    exact ⟨v_x5_0, rfl, r_x5_0.cast e51, hb⟩
  · intro K c pre0 x0 A hpre hx hsz o_D0
    obtain ⟨pre, hpreq⟩ : ∃ pre, pre = pre0 ++ [x0] := ⟨_, rfl⟩
    rw [← hpreq] at hpre; try rw [← hpreq] at hx
    rcases hx with ⟨acc, v_x5_0, rfl, o_x3, o_x5, o_cb10, r_x5_0, nr_r_x5_0, hb, q1, q2, q3⟩
    have ne_x3_D0 : b1 ≠ w7.heap.size := Nat.ne_of_lt lt_x3_0
    have ne_D0_x3 := ne_x3_D0.symm
    have ne_x5_D0 : b4 ≠ w7.heap.size := Nat.ne_of_lt lt_x5_0
    have ne_D0_x5 := ne_x5_D0.symm
    have ne_cb10_D0 : cb10 ≠ w7.heap.size := Nat.ne_of_lt lt_cb10_0
    have ne_D0_cb10 := ne_cb10_D0.symm
    have hs : w.heap.size ≤ _ := hb.size
    refine W_exit (blkQ_exit (thenQ_normal (W_seq (W_region (L_load b4 0 v_x5_0 (by kernel_rfl) (by kernel_rfl) (cell_obj o_x5 rfl) (L_as (L_nil (thenQ_normal (W_ret (end_retM (ds := [⟨.collected w7.heap.size, #[]⟩]) (by kernel_rfl) (Lv_mark o_D0 ?_)))))))))))
    intro w24 hW25
    replace hb := hb.trans (hW25.below hs_0)
    replace hs := Nat.le_trans hs (Nat.le_of_eq hW25.size.symm)
    have n_o_x3 := obj_wrote o_x3 hW25 (obj_ne o_x3 o_D0 (by simp))
    have n_o_x5 := obj_wrote o_x5 hW25 (obj_ne o_x5 o_D0 (by simp))
    have n_o_cb10 := obj_wrote o_cb10 hW25 (obj_ne o_cb10 o_D0 (by simp))
    have n_r_x5_0 := r_x5_0.wrote hW25 (r_x5_0.ne o_D0 (by simp))
    replace o_x3 := n_o_x3; clear n_o_x3
    replace o_x5 := n_o_x5; clear n_o_x5
    replace o_cb10 := n_o_cb10; clear n_o_cb10
    replace r_x5_0 := n_r_x5_0; clear n_r_x5_0
    replace o_D0 := hW25.here
    refine Lv_nil [.tmp 4] [v_x5_0] rfl ⟨by kernel_rfl, trivial⟩ ?_
    have e51 : acc = allF s few := by first | (rw [p1]; exact all_done (by omega)) | (rw [q1]; exact all_stop hpre q2 q3)
    exact ⟨v_x5_0, rfl, r_x5_0.cast e51, hb⟩

set_option maxHeartbeats 4000000 in
set_option maxRecDepth 100000 in
theorem c_furrowlaw03_sameTold (v_l : Value) (l : List (Int × List UInt8)) (s : List UInt8) (v_p : Value) (p : List (Nat × Nat × Nat)) (n : Int) (w : World) (p_l : Rd w encTold v_l l) (p_p : Rd w encPcN v_p p) (hl : l.length ≤ 1073741824) (hs : s.length ≤ 1073741824) (hp : p.length ≤ 1073741824) (hn0 : 0 ≤ n) (hn : n ≤ p.length) (hok : okPc s p) :
    Calls Tryd.prog 20 #[v_l, (S s), v_p, (.int .i64 n)] w (Ret fun v w' => v = (.bool (decide (l = toldR s 0 (p.take n.toNat)))) ∧ Below w.heap.size w w') := by
  refine enter (args := [v_l, (S s), v_p, (.int .i64 n)]) Tryd.func20 rfl (by kernel_rfl : _ = 47) (by kernel_rfl) ?_
  have hb := Below.refl w.heap.size w
  have hs : w.heap.size ≤ w.heap.size := Nat.le_refl _
  have in_p_l := p_l
  have in_p_p := p_p
  refine W_seq (W_region (L_as (L_nil (thenQ_normal (W_seq (W_seq (W_region (L_mv (L_len 28 31 (l).length v_l rfl Tryd.underlying28 (p_l).len (by kernel_rfl) (L_mv (L_cmp .i64 (((l).length : Nat) : Int) n ((((l).length : Nat) : Int) ≠ n) rfl (cmp_ne (((l).length : Nat) : Int) n) (by kernel_rfl) (by kernel_rfl) ?_ ?_)))))))))))
  · intro h1
    replace h1 : (((l).length : Nat) : Int) ≠ n := by omega
    refine L_nil (thenQ_normal (W_true (by kernel_rfl) (W_seq (W_region (L_as (L_nil (thenQ_normal (W_ret (thenQ_ret ?_)))))))))
    refine end_ret [.tmp 8] [(.bool false)] rfl rfl ⟨by kernel_rfl, trivial⟩ ?_
    have e0 : false = decide (l = toldR s 0 (p.take n.toNat)) := by first | exact (decide_eq_true (st_end i3 i2 (by omega) hn)).symm | exact (decide_eq_false (st_len (by omega) hn0 hn)).symm | exact (decide_eq_false (st_no1 (by assumption) (by omega) hn (by omega))).symm | exact (decide_eq_false (st_no (by assumption) (by assumption) (by omega) (.inr (by assumption)))).symm
    exact ⟨congrArg Value.bool e0, hb⟩
  · intro h2
    replace h2 : (((l).length : Nat) : Int) = n := by omega
    refine L_nil (thenQ_normal (W_false (by kernel_rfl) (W_skip (thenQ_normal (W_seq (W_seq (W_region (L_as (L_nil (thenQ_normal (W_block ?_)))))))))))
    refine W_loop (fun m s0 w0 => ∃ (i : Nat), (m = l.length - i) ∧ (s0.ds = []) ∧ (s0.f 0 = v_l) ∧ (s0.f 1 = (S s)) ∧ (s0.f 2 = v_p) ∧ (s0.f 3 = (.int .i64 n)) ∧ (s0.f 9 = (.int .i64 ((i : Nat) : Int))) ∧ (Rd w0 encTold v_l l) ∧ (Rd w0 encPcN v_p p) ∧ (Below w.heap.size w w0) ∧ (w.heap.size ≤ w0.heap.size) ∧ (i ≤ l.length) ∧ ((l.length : Int) = n) ∧ (l.take i = (toldR s 0 (p.take n.toNat)).take i)) _ ⟨0, rfl, by kernel_rfl, by kernel_rfl, by kernel_rfl, by kernel_rfl, by kernel_rfl, by kernel_rfl, p_l, p_p, hb, hs, by omega, (by omega), rfl⟩ ?_
    rintro m3 s4 w5 ⟨i, hm, hds, f_0, f_1, f_2, f_3, f_9, p_l, p_p, hb, hs, i1, i2, i3⟩
    refine W_set 0 _ f_0 (W_set 1 _ f_1 (W_set 2 _ f_2 (W_set 3 _ f_3 (W_set 9 _ f_9 ?_))))
    clear f_0 f_1 f_2 f_3 f_9
    refine W_seq (W_seq (W_region (L_mv (L_mv (L_cmp .i64 ((i : Nat) : Int) n (((i : Nat) : Int) < n) rfl (cmp_lt ((i : Nat) : Int) n) (by kernel_rfl) (by kernel_rfl) ?_ ?_)))))
    · intro h6
      replace h6 : ((i : Nat) : Int) < n := by omega
      refine L_nil (thenQ_normal (W_true (by kernel_rfl) (W_skip (thenQ_normal (W_seq (W_block (W_seq (W_quiet (by kernel_rfl) (by kernel_rfl) (Lq_mv (Lq_mv ?_))))))))))
      have hz := get_some l i (by first | omega | (simp only [List.length_drop, List.length_take]; omega)); obtain ⟨x7, hx8⟩ := hz
      have hz := (p_l).at (k := 2) (fun _ => rfl) hx8
      obtain ⟨g9, off10, hl11, hc12⟩ := hz
      refine Lq_ixaddr (k := .i64) v_l i _ g9 off10 el28 hl11 (by first | omega | (simp only [List.length_drop, List.length_take]; omega)) (by kernel_rfl) (by kernel_rfl) (Lq_run (.pointer (some ⟨g9, (off10 + i * 2), none⟩)) (fun _ => by kernel_rfl) (Lq_load g9 (off10 + i * 2) (.int .i64 x7.1) (by kernel_rfl) (fun _ => by kernel_rfl) (hc12 0 _ rfl) (Lq_mv (Lq_addN i 1 (by omega) (by kernel_rfl) (by kernel_rfl) (Lq_cmp .i64 x7.1 (((i + 1) : Nat) : Int) (x7.1 ≠ (((i + 1) : Nat) : Int)) rfl (cmp_ne x7.1 (((i + 1) : Nat) : Int)) (by kernel_rfl) (by kernel_rfl) ?_ ?_)))))
      · intro h13
        replace h13 : x7.1 ≠ (((i + 1) : Nat) : Int) := by omega
        refine Lq_mv (Lq_skip (by kernel_rfl) (Lq_skip (by kernel_rfl) (Lq_skip (by kernel_rfl) (Lq_skip (by kernel_rfl) (Lq_skip (by kernel_rfl) (Lq_skip (by kernel_rfl) (Lq_skip (by kernel_rfl) (Lq_skip (by kernel_rfl) (Lq_skip (by kernel_rfl) (Lq_skip (by kernel_rfl) (Lq_skip (by kernel_rfl) (Lq_skip (by kernel_rfl) (Lq_skip (by kernel_rfl) (Lq_skip (by kernel_rfl) (Lq_skip (by kernel_rfl) (Lq_skip (by kernel_rfl) (Lq_skip (by kernel_rfl) (Lq_skip (by kernel_rfl) (Lq_pickT (by kernel_rfl) (Lq_nil ?_))))))))))))))))))))
        intro w14 hB15
        replace hb := hb.trans (hB15.mono hs)
        replace hs := Nat.le_trans hs (hB15.size)
        replace p_l := p_l.below hB15
        replace p_p := p_p.below hB15
        refine thenQ_normal (W_true (by kernel_rfl) (W_seq (W_region (L_as (L_nil (thenQ_normal (W_ret (blkQ_ret (thenQ_ret (thenQ_ret (blkQ_ret (thenQ_ret ?_))))))))))))
        refine end_ret [.tmp 8] [(.bool false)] rfl hds ⟨by kernel_rfl, trivial⟩ ?_
        have e0 : false = decide (l = toldR s 0 (p.take n.toNat)) := by first | exact (decide_eq_true (st_end i3 i2 (by omega) hn)).symm | exact (decide_eq_false (st_len (by omega) hn0 hn)).symm | exact (decide_eq_false (st_no1 (by assumption) (by omega) hn (by omega))).symm | exact (decide_eq_false (st_no (by assumption) (by assumption) (by omega) (.inr (by assumption)))).symm
        exact ⟨congrArg Value.bool e0, hb⟩
      · intro h16
        replace h16 : x7.1 = (((i + 1) : Nat) : Int) := by omega
        refine Lq_mv (Lq_want (by kernel_rfl) (Lq_mv (Lq_want (by kernel_rfl) (Lq_mv (Lq_want (by kernel_rfl) ?_)))))
        have hz := (p_l).at (k := 2) (fun _ => rfl) hx8
        obtain ⟨g19, off20, hl21, hc22⟩ := hz
        refine Lq_ixaddr (k := .i64) v_l i _ g19 off20 el28 hl21 (by first | omega | (simp only [List.length_drop, List.length_take]; omega)) (by kernel_rfl) (by kernel_rfl) (Lq_want (by kernel_rfl) (Lq_run (.pointer (some ⟨g19, ((off20 + i * 2) + 1), none⟩)) (fun _ => by kernel_rfl) (Lq_want (by kernel_rfl) (Lq_load g19 ((off20 + i * 2) + 1) (S x7.2) (by kernel_rfl) (fun _ => by kernel_rfl) (hc22 1 _ rfl) (Lq_want (by kernel_rfl) (Lq_mv (Lq_want (by kernel_rfl) (Lq_mv (Lq_want (by kernel_rfl) (Lq_mv (Lq_want (by kernel_rfl) ?_)))))))))))
        have hz := get_some p i (by first | omega | (simp only [List.length_drop, List.length_take]; omega)); obtain ⟨x23, hx24⟩ := hz
        have hz := (p_p).at (k := 3) (fun _ => rfl) hx24
        obtain ⟨g25, off26, hl27, hc28⟩ := hz
        have hp_x23 := hok _ (List.mem_of_getElem? hx24)
        refine Lq_ixaddr (k := .i64) v_p i _ g25 off26 el23 hl27 (by first | omega | (simp only [List.length_drop, List.length_take]; omega)) (by kernel_rfl) (by kernel_rfl) (Lq_want (by kernel_rfl) (Lq_run (.pointer (some ⟨g25, (off26 + i * 3), none⟩)) (fun _ => by kernel_rfl) (Lq_want (by kernel_rfl) (Lq_load g25 (off26 + i * 3) (.int .i64 ((x23.1 : Nat) : Int)) (by kernel_rfl) (fun _ => by kernel_rfl) (hc28 0 _ rfl) (Lq_want (by kernel_rfl) (Lq_mv (Lq_want (by kernel_rfl) (Lq_mv (Lq_want (by kernel_rfl) ?_)))))))))
        have hz := (p_p).at (k := 3) (fun _ => rfl) hx24
        obtain ⟨g31, off32, hl33, hc34⟩ := hz
        refine Lq_ixaddr (k := .i64) v_p i _ g31 off32 el23 hl33 (by first | omega | (simp only [List.length_drop, List.length_take]; omega)) (by kernel_rfl) (by kernel_rfl) (Lq_want (by kernel_rfl) (Lq_run (.pointer (some ⟨g31, ((off32 + i * 3) + 1), none⟩)) (fun _ => by kernel_rfl) (Lq_want (by kernel_rfl) (Lq_load g31 ((off32 + i * 3) + 1) (.int .i64 ((x23.2.1 : Nat) : Int)) (by kernel_rfl) (fun _ => by kernel_rfl) (hc34 1 _ rfl) (Lq_want (by kernel_rfl) (Lq_sslice s x23.1 x23.2.1 Tryd.underlying9 (by kernel_rfl) ⟨.i64, by kernel_rfl⟩ ⟨.i64, by kernel_rfl⟩ (by first | omega | (simp only [List.length_drop, List.length_take]; omega)) (by first | omega | (simp only [List.length_drop, List.length_take]; omega)) (Lq_want (by kernel_rfl) (Lq_sne x7.2 (List.drop x23.1 (List.take x23.2.1 s)) rfl (by kernel_rfl) (by kernel_rfl) ?_ ?_))))))))
        · intro h35
          refine Lq_pickF (by kernel_rfl) (Lq_nil ?_)
          intro w36 hB37
          replace hb := hb.trans (hB37.mono hs)
          replace hs := Nat.le_trans hs (hB37.size)
          replace p_l := p_l.below hB37
          replace p_p := p_p.below hB37
          refine thenQ_normal (W_true (by kernel_rfl) (W_seq (W_region (L_as (L_nil (thenQ_normal (W_ret (blkQ_ret (thenQ_ret (thenQ_ret (blkQ_ret (thenQ_ret ?_))))))))))))
          refine end_ret [.tmp 8] [(.bool false)] rfl hds ⟨by kernel_rfl, trivial⟩ ?_
          have e0 : false = decide (l = toldR s 0 (p.take n.toNat)) := by first | exact (decide_eq_true (st_end i3 i2 (by omega) hn)).symm | exact (decide_eq_false (st_len (by omega) hn0 hn)).symm | exact (decide_eq_false (st_no1 (by assumption) (by omega) hn (by omega))).symm | exact (decide_eq_false (st_no (by assumption) (by assumption) (by omega) (.inr (by assumption)))).symm
          exact ⟨congrArg Value.bool e0, hb⟩
        · intro h38
          refine Lq_pickF (by kernel_rfl) (Lq_nil ?_)
          intro w39 hB40
          replace hb := hb.trans (hB40.mono hs)
          replace hs := Nat.le_trans hs (hB40.size)
          replace p_l := p_l.below hB40
          replace p_p := p_p.below hB40
          refine thenQ_normal (W_false (by kernel_rfl) (W_skip (blkQ_normal (thenQ_normal (W_region (L_mv (L_addN i 1 (by omega) (by kernel_rfl) (by kernel_rfl) (L_as (L_nil ?_)))))))))
          refine thenQ_normal ⟨_, ?_, (i + 1), rfl, hds, by kernel_rfl, by kernel_rfl, by kernel_rfl, by kernel_rfl, by kernel_rfl, p_l, p_p, hb, hs, ?_, ?_, ?_⟩
          · omega
          · omega
          · exact i2
          · exact st_step i3 (by assumption) (by assumption) (by omega) (by omega) (by assumption)
    · intro h41
      replace h41 : n ≤ ((i : Nat) : Int) := by omega
      refine L_nil (thenQ_normal (W_false (by kernel_rfl) (W_exit (thenQ_exit (thenQ_exit (blkQ_exit (thenQ_normal (W_seq (W_region (L_as (L_nil (thenQ_normal (W_ret ?_)))))))))))))
      refine end_ret [.tmp 8] [(.bool true)] rfl hds ⟨by kernel_rfl, trivial⟩ ?_
      have e0 : true = decide (l = toldR s 0 (p.take n.toNat)) := by first | exact (decide_eq_true (st_end i3 i2 (by omega) hn)).symm | exact (decide_eq_false (st_len (by omega) hn0 hn)).symm | exact (decide_eq_false (st_no1 (by assumption) (by omega) hn (by omega))).symm | exact (decide_eq_false (st_no (by assumption) (by assumption) (by omega) (.inr (by assumption)))).symm
      exact ⟨congrArg Value.bool e0, hb⟩

set_option maxHeartbeats 4000000 in
set_option maxRecDepth 100000 in
theorem c_furrowlaw03_LinesEach (s : List UInt8) (few : Int) (w : World) (hty : w.cell? ⟨0, 0, none⟩ = some (.iface 116 (.agg #[.pointer (some ⟨4, 56, none⟩)]))) (hs : s.length ≤ 1048576) :
    Calls Tryd.prog 3 #[(S s), (.int .i64 few)] w (Ret fun v w' => v = (.bool true) ∧ Below w.heap.size w w') := by
  refine enterM (args := [(S s), (.int .i64 few)]) Tryd.func3 rfl (by kernel_rfl : _ = 58) (by kernel_rfl) ?_
  have hb := Below.refl w.heap.size w
  have hs : w.heap.size ≤ w.heap.size := Nat.le_refl _
  have hpr := pcsR_len s
  have htl0 := told_len s
  have hok0 := okPc_R s
  refine W_seq (W_region (L_as (L_nil (thenQ_normal (W_seq (W_seq (W_region (L_call 16 [] (by kernel_rfl) (by kernel_rfl) (c_furrowlaw03_awake  _ (gcell_below hty hb)) ?_))))))))
  rintro _ w1 ⟨rfl, hB2⟩
  replace hb := hb.trans (hB2.mono hs)
  replace hs := Nat.le_trans hs (hB2.size)
  refine L_not true (by kernel_rfl) (L_nil (thenQ_normal (W_false (by kernel_rfl) (W_skip (thenQ_normal (W_seq (W_region (L_mv (L_call 17 [(S s)] (by kernel_rfl) (by kernel_rfl) (c_furrowref03_Pieces s _ (by first | omega | assumption | exact okPc_R s | (rw [p1]; omega))) ?_)))))))))
  rintro q4 w5 ⟨_, rfl, r_q4, hB6⟩
  replace r_q4 := r_q4.base hs
  replace hb := hb.trans (hB6.mono hs)
  replace hs := Nat.le_trans hs (hB6.size)
  refine L_as (L_nil (thenQ_normal (W_seq (W_region (L_mv (L_call 18 [(S s)] (by kernel_rfl) (by kernel_rfl) (c_lines_Each s _ ) ?_))))))
  rintro _ w8 ⟨cb11, rfl, o_cb11, g_cb11, hB9⟩
  replace g_cb11 := Nat.le_trans hs g_cb11
  replace hb := hb.trans (hB9.mono hs)
  replace hs := Nat.le_trans hs (hB9.size)
  replace r_q4 := r_q4.below hB9
  refine L_as (L_nil (thenQ_normal (W_seq (W_seq (W_region (L_mv (L_run (.bool false) (by kernel_rfl) (by kernel_rfl) (L_nil (thenQ_normal (W_false (by kernel_rfl) (W_skip (thenQ_normal (W_seq (W_region (L_mv (L_len 23 75 (pcsR s).length q4 rfl Tryd.underlying23 (r_q4.rd).len (by kernel_rfl) (L_as (L_nil (thenQ_normal (W_seq (W_seq (W_region (L_mv (L_cmp .i64 few 1 (1 ≤ few) rfl (cmp_ge few 1) (by kernel_rfl) (by kernel_rfl) ?_ ?_))))))))))))))))))))))))
  · intro h12
    replace h12 : 1 ≤ few := by omega
    refine L_mv (L_want (by kernel_rfl) (L_mv (L_want (by kernel_rfl) (L_mv (L_want (by kernel_rfl) (L_cmp .i64 few (((pcsR s).length : Nat) : Int) (few < (((pcsR s).length : Nat) : Int)) rfl (cmp_lt few (((pcsR s).length : Nat) : Int)) (by kernel_rfl) (by kernel_rfl) ?_ ?_))))))
    · intro h13
      replace h13 : few < (((pcsR s).length : Nat) : Int) := by omega
      refine L_pickT (by kernel_rfl) (L_nil (thenQ_normal (W_true (by kernel_rfl) (W_region (L_mv (L_as (L_nil (thenQ_normal (W_seq (W_region (L_mv (L_mv (L_call 19 [(S s), (.int .i64 few)] (by kernel_rfl) (by kernel_rfl) (c_furrowlaw03_all s few _ (by first | omega | assumption | exact okPc_R s | (rw [p1]; omega))) ?_)))))))))))))
      rintro q14 w15 ⟨_, rfl, r_q14, hB16⟩
      replace r_q14 := r_q14.base hs
      replace hb := hb.trans (hB16.mono hs)
      replace hs := Nat.le_trans hs (hB16.size)
      replace o_cb11 := obj_below o_cb11 hB16
      replace r_q4 := r_q4.below hB16
      have := allF_len s few
      refine L_as (L_nil (thenQ_normal (W_seq (W_region (L_new (fun b => .pointer (some ⟨b, 0, none⟩)) (.cells [(.slice none 0 0)].toArray 28 (0, 0)) (by kernel_rfl) (by kernel_rfl) ?_)))))
      intro b18 w19 hN20
      have ne_cb11_x9 : cb11 ≠ b18 := by have := obj_lt o_cb11; have := hN20.num; omega
      have ne_x9_cb11 := ne_cb11_x9.symm
      have g_x9 : w.heap.size ≤ b18 := by rw [hN20.num]; exact hs
      replace hb := hb.trans (hN20.below.mono hs)
      replace hs := Nat.le_trans hs (hN20.below.size)
      replace o_cb11 := obj_below o_cb11 hN20.below
      replace r_q4 := r_q4.below hN20.below
      replace r_q14 := r_q14.below hN20.below
      have o_x9 := hN20.here
      refine L_nil (thenQ_normal (W_seq (W_seq (W_region (L_mv (L_nil (thenQ_normal (W_block (W_unroll 3 (W_seq (W_region (L_run (.bool true) (by kernel_rfl) (by kernel_rfl) (L_nil (thenQ_normal (W_seq (W_true (by kernel_rfl) (W_skip (thenQ_normal (W_seq (W_block (W_seq (W_region (L_store b18 0 (.slice none 0 0) [(.slice none 0 0)] [(.slice none 0 0)] 28 (by kernel_rfl) (by kernel_rfl) rfl (by kernel_rfl) o_x9 (by simp) rfl ?_)))))))))))))))))))))))
      intro w21 hW22
      replace hb := hb.trans (hW22.below g_x9)
      replace hs := Nat.le_trans hs (Nat.le_of_eq hW22.size.symm)
      have n_o_cb11 := obj_wrote o_cb11 hW22 (obj_ne o_cb11 o_x9 (by simp))
      have n_r_q4 := r_q4.wrote hW22 (r_q4.ne o_x9 (by simp))
      have n_r_q14 := r_q14.wrote hW22 (r_q14.ne o_x9 (by simp))
      replace o_cb11 := n_o_cb11; clear n_o_cb11
      replace r_q4 := n_r_q4; clear n_r_q4
      replace r_q14 := n_r_q14; clear n_r_q14
      replace o_x9 := hW22.here
      refine L_nil (thenQ_normal (W_seq (W_region (L_mv (L_nil (thenQ_normal (W_block ?_)))))))
      have lt_cb11_0 : cb11 < w21.heap.size := obj_lt o_cb11
      have lt_x9_0 : b18 < w21.heap.size := obj_lt o_x9
      have hs_0 := hs
      have hb_0 := hb
      refine W_range 43 [(.pointer (some ⟨cb11, 0, none⟩))] (toldF s) (by kernel_rfl) (fun _ _ => rfl) (it_lines_Each_1 cb11 s (by first | omega | assumption | exact okPc_R s | (rw [p1]; omega))) o_cb11 ((fun D A B h hc hd => obj_ch h hc (fun h => Nat.not_lt.2 (hd _ h) lt_cb11_0))) (by intro x; rfl) (fun K pre A => ∃ (acc : List (Int × List UInt8)) (v_x9_0 : Value), (A.heap[cb11]? = some (.cells [(S s)].toArray 9 (0, 0))) ∧ (A.heap[b18]? = some (.cells [v_x9_0].toArray 28 (0, 0))) ∧ (Row A w.heap.size 75 3 encPcN q4 (pcsR s)) ∧ (∀ g, Value.ownBlock q4 = some g → ¬ Iv w21.heap.size K g) ∧ (Row A w.heap.size 31 2 encTold q14 (allF s few)) ∧ (∀ g, Value.ownBlock q14 = some g → ¬ Iv w21.heap.size K g) ∧ (Row A w.heap.size 31 2 encTold v_x9_0 acc) ∧ (∀ g, Value.ownBlock v_x9_0 = some g → ¬ Iv w21.heap.size K g) ∧ (Value.ownBlock q14 = none ∨ Value.ownBlock q14 ≠ Value.ownBlock v_x9_0) ∧ (Value.ownBlock v_x9_0 = none ∨ Value.ownBlock v_x9_0 ≠ Value.ownBlock q14) ∧ (Below w.heap.size w A) ∧ (acc = pre)) (fun K c pre A => False) ?_ ?_ ?_ ?_ ?_ ?_
      · intro A hA
        exact ⟨[], (.slice none 0 0), obj_below o_cb11 hA, obj_below o_x9 hA, r_q4.below hA, nr_old r_q4 _, r_q14.below hA, nr_old r_q14 _, Row.nil _ _ _ _ _, nr_nil _ _, ap_nil _, (.inl rfl), hb.trans (hA.mono hs), by rfl⟩
      · rintro K pre A B ⟨acc, v_x9_0, o_cb11, o_x9, r_q4, nr_r_q4, r_q14, nr_r_q14, r_x9_0, nr_r_x9_0, ap_r_q14_r_x9_0, ap_r_x9_0_r_q14, hb, p1⟩ hc
        exact ⟨acc, v_x9_0, obj_ch o_cb11 hc (fun h => Nat.not_lt.2 h.1 lt_cb11_0), obj_ch o_x9 hc (fun h => Nat.not_lt.2 h.1 lt_x9_0), r_q4.ch hc nr_r_q4, nr_r_q4, r_q14.ch hc nr_r_q14, nr_r_q14, r_x9_0.ch hc nr_r_x9_0, nr_r_x9_0, ap_r_q14_r_x9_0, ap_r_x9_0_r_q14, hc.below hb hb.size (fun k h => Nat.le_trans hs_0 h.1), p1⟩
      · intro K c _ A B h hc; exact h.elim
      · intro l K pre x A hi hN hK0 hK hpre
        obtain ⟨acc, v_x9_0, o_cb11, o_x9, r_q4, nr_r_q4, r_q14, nr_r_q14, r_x9_0, nr_r_x9_0, ap_r_q14_r_x9_0, ap_r_x9_0_r_q14, hb, p1⟩ := hi
        have hs := hb.size
        have hk := Kp.refl (w21.heap.size) K A
        have nv_cb11 : ¬ Iv (w21.heap.size) K cb11 := fun h => Nat.not_lt.2 h.1 lt_cb11_0
        have nv_x9 : ¬ Iv (w21.heap.size) K b18 := fun h => Nat.not_lt.2 h.1 lt_x9_0
        replace o_cb11 := hN
        have hpl := pre_lt hpre
        have htl := told_len s
        have hsh := told_short (pre_mem hpre)
        have hal : acc.length = pre.length := by rw [p1]
        refine W_seq (W_region (L_as (L_nil (thenQ_normal (W_region (L_as (L_nil ?_)))))))
        refine thenQ_normal ⟨hk, ?_⟩
        intro w23 hc24
        replace o_cb11 := obj_ch o_cb11 hc24 nv_cb11
        replace o_x9 := obj_ch o_x9 hc24 nv_x9
        replace r_q4 := r_q4.ch hc24 nr_r_q4
        replace r_q14 := r_q14.ch hc24 nr_r_q14
        replace r_x9_0 := r_x9_0.ch hc24 nr_r_x9_0
        replace hb := hc24.below hb hs (fun k h => Nat.le_trans hs_0 h.1)
        replace hs := hb.size
        replace hK := Nat.le_trans hK hc24.size
        replace hk := Kp.refl (w21.heap.size) K w23
        refine W_block (W_region (L_load b18 0 v_x9_0 (by kernel_rfl) (by kernel_rfl) (cell_obj o_x9 rfl) (L_mv (L_mv (L_run (Value.agg #[(.int .i64 x.1), (S x.2)]) (by kernel_rfl) (by kernel_rfl) (L_app el28 w.heap.size v_x9_0 acc (x.1, x.2) hs r_x9_0 (by omega) (by kernel_rfl) rfl rfl (by kernel_rfl) rfl (by kernel_rfl) (by kernel_rfl) ?_))))))
        intro v25 w26 hr27 hg28 how29
        have nr2 := nr_app how29 nr_r_x9_0 hK
        have nap_r_q14 := ap_app r_q14 how29 ap_r_q14_r_x9_0
        replace hb := hb.grown hg28 hs (fun k hk => (World.ownsRow.lt r_x9_0 k hk).1)
        replace hk := hk.ch (Ch.of_grown hg28) hK (fun k e => nr_r_x9_0 k e)
        replace hK := Nat.le_trans hK (hg28.size)
        replace hs := Nat.le_trans hs (hg28.size)
        have n_o_cb11 := obj_grown o_cb11 hg28 (r_x9_0.ne o_cb11 (by simp))
        have n_o_x9 := obj_grown o_x9 hg28 (r_x9_0.ne o_x9 (by simp))
        have n_r_q4 := r_q4.grown hg28 (r_q4.apart r_x9_0 (by kernel_rfl))
        have n_r_q14 := r_q14.grown hg28 ap_r_q14_r_x9_0
        replace o_cb11 := n_o_cb11; clear n_o_cb11
        replace o_x9 := n_o_x9; clear n_o_x9
        replace r_q4 := n_r_q4; clear n_r_q4
        replace r_q14 := n_r_q14; clear n_r_q14
        have ap_r_q14_r_x9_0 := nap_r_q14; have ap_r_x9_0_r_q14 := ap_comm nap_r_q14
        replace r_x9_0 := hr27
        have nr_r_x9_0 := nr2; clear nr2
        refine L_store b18 0 v25 [v_x9_0] [v25] 28 (by kernel_rfl) (by kernel_rfl) r_x9_0.one (by kernel_rfl) o_x9 (by simp) rfl ?_
        intro w30 hW31
        replace hb := hb.trans (hW31.below g_x9)
        replace hk := hk.ch (Ch.of_wrote hW31) hK (fun k e h => nv_x9 (e ▸ h))
        replace hK := Nat.le_trans hK (Nat.le_of_eq hW31.size.symm)
        replace hs := Nat.le_trans hs (Nat.le_of_eq hW31.size.symm)
        have n_o_cb11 := obj_wrote o_cb11 hW31 (obj_ne o_cb11 o_x9 (by simp))
        have n_r_q4 := r_q4.wrote hW31 (r_q4.ne o_x9 (by simp))
        have n_r_q14 := r_q14.wrote hW31 (r_q14.ne o_x9 (by simp))
        have n_r_x9_0 := r_x9_0.wrote hW31 (r_x9_0.ne o_x9 (by simp))
        replace o_cb11 := n_o_cb11; clear n_o_cb11
        replace r_q4 := n_r_q4; clear n_r_q4
        replace r_q14 := n_r_q14; clear n_r_q14
        replace r_x9_0 := n_r_x9_0; clear n_r_x9_0
        replace o_x9 := hW31.here
        refine L_nil (blkQ_normal ?_)
        refine round_normal hk o_cb11 ⟨(acc ++ [(x.1, x.2)]), v25, o_cb11, o_x9, r_q4, nr_r_q4, r_q14, nr_r_q14, r_x9_0, nr_r_x9_0, ap_r_q14_r_x9_0, ap_r_x9_0_r_q14, hb, ?_⟩
        · rw [p1]
      · intro K A hi hsz o_D0
        obtain ⟨acc, v_x9_0, o_cb11, o_x9, r_q4, nr_r_q4, r_q14, nr_r_q14, r_x9_0, nr_r_x9_0, ap_r_q14_r_x9_0, ap_r_x9_0_r_q14, hb, p1⟩ := hi
        have ne_cb11_D0 : cb11 ≠ w21.heap.size := Nat.ne_of_lt lt_cb11_0
        have ne_D0_cb11 := ne_cb11_D0.symm
        have ne_x9_D0 : b18 ≠ w21.heap.size := Nat.ne_of_lt lt_x9_0
        have ne_D0_x9 := ne_x9_D0.symm
        have hs : w.heap.size ≤ _ := hb.size
        refine blkQ_normal (blkQ_normal (thenQ_normal (W_region (L_addN 0 1 (by omega) (by kernel_rfl) (by kernel_rfl) (L_mv (L_nil (thenQ_round (W_seq (W_region (L_run (.bool true) (by kernel_rfl) (by kernel_rfl) (L_nil (thenQ_normal (W_seq (W_true (by kernel_rfl) (W_skip (thenQ_normal (W_seq (W_block (W_seq (W_region (L_store b18 0 (.slice none 0 0) [v_x9_0] [(.slice none 0 0)] 28 (by kernel_rfl) (by kernel_rfl) rfl (by kernel_rfl) o_x9 (by simp) rfl ?_)))))))))))))))))))))
        intro w32 hW33
        replace hb := hb.trans (hW33.below g_x9)
        replace hs := Nat.le_trans hs (Nat.le_of_eq hW33.size.symm)
        have n_o_cb11 := obj_wrote o_cb11 hW33 (obj_ne o_cb11 o_x9 (by simp))
        have n_o_D0 := obj_wrote o_D0 hW33 (obj_ne o_D0 o_x9 (by simp))
        have n_r_q4 := r_q4.wrote hW33 (r_q4.ne o_x9 (by simp))
        have n_r_q14 := r_q14.wrote hW33 (r_q14.ne o_x9 (by simp))
        have n_r_x9_0 := r_x9_0.wrote hW33 (r_x9_0.ne o_x9 (by simp))
        replace o_cb11 := n_o_cb11; clear n_o_cb11
        replace o_D0 := n_o_D0; clear n_o_D0
        replace r_q4 := n_r_q4; clear n_r_q4
        replace r_q14 := n_r_q14; clear n_r_q14
        replace r_x9_0 := n_r_x9_0; clear n_r_x9_0
        replace o_x9 := hW33.here
        refine L_nil (thenQ_normal (W_seq (W_region (L_mv (L_nil (thenQ_normal (W_block ?_)))))))
        have lt_cb11_1 : cb11 < w32.heap.size := obj_lt o_cb11
        have lt_x9_1 : b18 < w32.heap.size := obj_lt o_x9
        have lt_D0_1 : w21.heap.size < w32.heap.size := obj_lt o_D0
        have hs_1 := hs
        have hb_1 := hb
        refine W_range 43 [(.pointer (some ⟨cb11, 0, none⟩))] (toldF s) (by kernel_rfl) (fun _ _ => rfl) (it_lines_Each_1 cb11 s (by first | omega | assumption | exact okPc_R s | (rw [p1]; omega))) o_cb11 ((fun D A B h hc hd => obj_ch h hc (fun h => Nat.not_lt.2 (hd _ h) lt_cb11_1))) (by intro x; rfl) (fun K pre A => ∃ (acc : List (Int × List UInt8)) (v_x9_0 : Value), (A.heap[cb11]? = some (.cells [(S s)].toArray 9 (0, 0))) ∧ (A.heap[b18]? = some (.cells [v_x9_0].toArray 28 (0, 0))) ∧ (A.heap[w21.heap.size]? = some (.deferred (some []))) ∧ (Row A w.heap.size 75 3 encPcN q4 (pcsR s)) ∧ (∀ g, Value.ownBlock q4 = some g → ¬ Iv w32.heap.size K g) ∧ (Row A w.heap.size 31 2 encTold q14 (allF s few)) ∧ (∀ g, Value.ownBlock q14 = some g → ¬ Iv w32.heap.size K g) ∧ (Row A w.heap.size 31 2 encTold v_x9_0 acc) ∧ (∀ g, Value.ownBlock v_x9_0 = some g → ¬ Iv w32.heap.size K g) ∧ (Value.ownBlock q14 = none ∨ Value.ownBlock q14 ≠ Value.ownBlock v_x9_0) ∧ (Value.ownBlock v_x9_0 = none ∨ Value.ownBlock v_x9_0 ≠ Value.ownBlock q14) ∧ (Below w.heap.size w A) ∧ (acc = pre)) (fun K c pre A => False) ?_ ?_ ?_ ?_ ?_ ?_
        · intro A hA
          exact ⟨[], (.slice none 0 0), obj_below o_cb11 hA, obj_below o_x9 hA, obj_below o_D0 hA, r_q4.below hA, nr_old r_q4 _, r_q14.below hA, nr_old r_q14 _, Row.nil _ _ _ _ _, nr_nil _ _, ap_nil _, (.inl rfl), hb.trans (hA.mono hs), by rfl⟩
        · rintro K pre A B ⟨acc, v_x9_0, o_cb11, o_x9, o_D0, r_q4, nr_r_q4, r_q14, nr_r_q14, r_x9_0, nr_r_x9_0, ap_r_q14_r_x9_0, ap_r_x9_0_r_q14, hb, p1⟩ hc
          exact ⟨acc, v_x9_0, obj_ch o_cb11 hc (fun h => Nat.not_lt.2 h.1 lt_cb11_1), obj_ch o_x9 hc (fun h => Nat.not_lt.2 h.1 lt_x9_1), obj_ch o_D0 hc (fun h => Nat.not_lt.2 h.1 lt_D0_1), r_q4.ch hc nr_r_q4, nr_r_q4, r_q14.ch hc nr_r_q14, nr_r_q14, r_x9_0.ch hc nr_r_x9_0, nr_r_x9_0, ap_r_q14_r_x9_0, ap_r_x9_0_r_q14, hc.below hb hb.size (fun k h => Nat.le_trans hs_1 h.1), p1⟩
        · intro K c _ A B h hc; exact h.elim
        · intro l K pre x A hi hN hK0 hK hpre
          obtain ⟨acc, v_x9_0, o_cb11, o_x9, o_D0, r_q4, nr_r_q4, r_q14, nr_r_q14, r_x9_0, nr_r_x9_0, ap_r_q14_r_x9_0, ap_r_x9_0_r_q14, hb, p1⟩ := hi
          have hs := hb.size
          have hk := Kp.refl (w32.heap.size) K A
          have nv_cb11 : ¬ Iv (w32.heap.size) K cb11 := fun h => Nat.not_lt.2 h.1 lt_cb11_1
          have nv_x9 : ¬ Iv (w32.heap.size) K b18 := fun h => Nat.not_lt.2 h.1 lt_x9_1
          have nv_D0 : ¬ Iv (w32.heap.size) K w21.heap.size := fun h => Nat.not_lt.2 h.1 lt_D0_1
          replace o_cb11 := hN
          have hpl := pre_lt hpre
          have htl := told_len s
          have hsh := told_short (pre_mem hpre)
          have hal : acc.length = pre.length := by rw [p1]
          refine W_seq (W_region (L_as (L_nil (thenQ_normal (W_region (L_as (L_nil ?_)))))))
          refine thenQ_normal ⟨hk, ?_⟩
          intro w34 hc35
          replace o_cb11 := obj_ch o_cb11 hc35 nv_cb11
          replace o_x9 := obj_ch o_x9 hc35 nv_x9
          replace o_D0 := obj_ch o_D0 hc35 nv_D0
          replace r_q4 := r_q4.ch hc35 nr_r_q4
          replace r_q14 := r_q14.ch hc35 nr_r_q14
          replace r_x9_0 := r_x9_0.ch hc35 nr_r_x9_0
          replace hb := hc35.below hb hs (fun k h => Nat.le_trans hs_1 h.1)
          replace hs := hb.size
          replace hK := Nat.le_trans hK hc35.size
          replace hk := Kp.refl (w32.heap.size) K w34
          refine W_block (W_region (L_load b18 0 v_x9_0 (by kernel_rfl) (by kernel_rfl) (cell_obj o_x9 rfl) (L_mv (L_mv (L_run (Value.agg #[(.int .i64 x.1), (S x.2)]) (by kernel_rfl) (by kernel_rfl) (L_app el28 w.heap.size v_x9_0 acc (x.1, x.2) hs r_x9_0 (by omega) (by kernel_rfl) rfl rfl (by kernel_rfl) rfl (by kernel_rfl) (by kernel_rfl) ?_))))))
          intro v36 w37 hr38 hg39 how40
          have nr2 := nr_app how40 nr_r_x9_0 hK
          have nap_r_q14 := ap_app r_q14 how40 ap_r_q14_r_x9_0
          replace hb := hb.grown hg39 hs (fun k hk => (World.ownsRow.lt r_x9_0 k hk).1)
          replace hk := hk.ch (Ch.of_grown hg39) hK (fun k e => nr_r_x9_0 k e)
          replace hK := Nat.le_trans hK (hg39.size)
          replace hs := Nat.le_trans hs (hg39.size)
          have n_o_cb11 := obj_grown o_cb11 hg39 (r_x9_0.ne o_cb11 (by simp))
          have n_o_x9 := obj_grown o_x9 hg39 (r_x9_0.ne o_x9 (by simp))
          have n_o_D0 := obj_grown o_D0 hg39 (r_x9_0.ne o_D0 (by simp))
          have n_r_q4 := r_q4.grown hg39 (r_q4.apart r_x9_0 (by kernel_rfl))
          have n_r_q14 := r_q14.grown hg39 ap_r_q14_r_x9_0
          replace o_cb11 := n_o_cb11; clear n_o_cb11
          replace o_x9 := n_o_x9; clear n_o_x9
          replace o_D0 := n_o_D0; clear n_o_D0
          replace r_q4 := n_r_q4; clear n_r_q4
          replace r_q14 := n_r_q14; clear n_r_q14
          have ap_r_q14_r_x9_0 := nap_r_q14; have ap_r_x9_0_r_q14 := ap_comm nap_r_q14
          replace r_x9_0 := hr38
          have nr_r_x9_0 := nr2; clear nr2
          refine L_store b18 0 v36 [v_x9_0] [v36] 28 (by kernel_rfl) (by kernel_rfl) r_x9_0.one (by kernel_rfl) o_x9 (by simp) rfl ?_
          intro w41 hW42
          replace hb := hb.trans (hW42.below g_x9)
          replace hk := hk.ch (Ch.of_wrote hW42) hK (fun k e h => nv_x9 (e ▸ h))
          replace hK := Nat.le_trans hK (Nat.le_of_eq hW42.size.symm)
          replace hs := Nat.le_trans hs (Nat.le_of_eq hW42.size.symm)
          have n_o_cb11 := obj_wrote o_cb11 hW42 (obj_ne o_cb11 o_x9 (by simp))
          have n_o_D0 := obj_wrote o_D0 hW42 (obj_ne o_D0 o_x9 (by simp))
          have n_r_q4 := r_q4.wrote hW42 (r_q4.ne o_x9 (by simp))
          have n_r_q14 := r_q14.wrote hW42 (r_q14.ne o_x9 (by simp))
          have n_r_x9_0 := r_x9_0.wrote hW42 (r_x9_0.ne o_x9 (by simp))
          replace o_cb11 := n_o_cb11; clear n_o_cb11
          replace o_D0 := n_o_D0; clear n_o_D0
          replace r_q4 := n_r_q4; clear n_r_q4
          replace r_q14 := n_r_q14; clear n_r_q14
          replace r_x9_0 := n_r_x9_0; clear n_r_x9_0
          replace o_x9 := hW42.here
          refine L_nil (blkQ_normal ?_)
          refine round_normal hk o_cb11 ⟨(acc ++ [(x.1, x.2)]), v36, o_cb11, o_x9, o_D0, r_q4, nr_r_q4, r_q14, nr_r_q14, r_x9_0, nr_r_x9_0, ap_r_q14_r_x9_0, ap_r_x9_0_r_q14, hb, ?_⟩
          · rw [p1]
        · intro K A hi hsz o_D1
          obtain ⟨acc, v_x9_0, o_cb11, o_x9, o_D0, r_q4, nr_r_q4, r_q14, nr_r_q14, r_x9_0, nr_r_x9_0, ap_r_q14_r_x9_0, ap_r_x9_0_r_q14, hb, p1⟩ := hi
          have ne_cb11_D1 : cb11 ≠ w32.heap.size := Nat.ne_of_lt lt_cb11_1
          have ne_D1_cb11 := ne_cb11_D1.symm
          have ne_x9_D1 : b18 ≠ w32.heap.size := Nat.ne_of_lt lt_x9_1
          have ne_D1_x9 := ne_x9_D1.symm
          have ne_D0_D1 : w21.heap.size ≠ w32.heap.size := Nat.ne_of_lt lt_D0_1
          have ne_D1_D0 := ne_D0_D1.symm
          have hs : w.heap.size ≤ _ := hb.size
          refine blkQ_normal (blkQ_normal (thenQ_normal (W_region (L_addN 1 1 (by omega) (by kernel_rfl) (by kernel_rfl) (L_mv (L_nil (thenQ_round (W_seq (W_region (L_run (.bool false) (by kernel_rfl) (by kernel_rfl) (L_nil (thenQ_normal (W_seq (W_false (by kernel_rfl) (W_exit (thenQ_exit (thenQ_exit (blkQ_exit (thenQ_normal (W_seq (W_region (L_mv (L_mv (L_mv (L_mv (L_call 20 [q14, (S s), q4, (.int .i64 few)] (by kernel_rfl) (by kernel_rfl) (c_furrowlaw03_sameTold q14 (allF s few) s q4 (pcsR s) few _ r_q14.rd r_q4.rd (by first | omega | assumption | exact okPc_R s | (rw [p1]; omega)) (by first | omega | assumption | exact okPc_R s | (rw [p1]; omega)) (by first | omega | assumption | exact okPc_R s | (rw [p1]; omega)) (by first | omega | assumption | exact okPc_R s | (rw [p1]; omega)) (by first | omega | assumption | exact okPc_R s | (rw [p1]; omega)) (by first | omega | assumption | exact okPc_R s | (rw [p1]; omega))) ?_))))))))))))))))))))))))))
          rintro _ w43 ⟨rfl, hB44⟩
          replace hb := hb.trans (hB44.mono hs)
          replace hs := Nat.le_trans hs (hB44.size)
          replace o_cb11 := obj_below o_cb11 hB44
          replace o_x9 := obj_below o_x9 hB44
          replace o_D0 := obj_below o_D0 hB44
          replace o_D1 := obj_below o_D1 hB44
          replace r_q4 := r_q4.below hB44
          replace r_q14 := r_q14.below hB44
          replace r_x9_0 := r_x9_0.below hB44
          refine put_split (decide ((allF s few) = toldR s 0 ((pcsR s).take few.toNat))) ?_ ?_
          · intro h46
            refine L_mv (L_want (by kernel_rfl) (L_load b18 0 v_x9_0 (by kernel_rfl) (by kernel_rfl) (cell_obj o_x9 rfl) (L_want (by kernel_rfl) (L_mv (L_want (by kernel_rfl) (L_mv (L_want (by kernel_rfl) (L_mv (L_want (by kernel_rfl) (L_len 23 75 (pcsR s).length q4 rfl Tryd.underlying23 (r_q4.rd).len (by kernel_rfl) (L_want (by kernel_rfl) (L_call 20 [v_x9_0, (S s), q4, (.int .i64 (((pcsR s).length : Nat) : Int))] (by kernel_rfl) (by kernel_rfl) (c_furrowlaw03_sameTold v_x9_0 acc s q4 (pcsR s) (((pcsR s).length : Nat) : Int) _ r_x9_0.rd r_q4.rd (by first | omega | assumption | exact okPc_R s | (rw [p1]; omega)) (by first | omega | assumption | exact okPc_R s | (rw [p1]; omega)) (by first | omega | assumption | exact okPc_R s | (rw [p1]; omega)) (by first | omega | assumption | exact okPc_R s | (rw [p1]; omega)) (by first | omega | assumption | exact okPc_R s | (rw [p1]; omega)) (by first | omega | assumption | exact okPc_R s | (rw [p1]; omega))) ?_))))))))))))
            rintro _ w47 ⟨rfl, hB48⟩
            replace hb := hb.trans (hB48.mono hs)
            replace hs := Nat.le_trans hs (hB48.size)
            replace o_cb11 := obj_below o_cb11 hB48
            replace o_x9 := obj_below o_x9 hB48
            replace o_D0 := obj_below o_D0 hB48
            replace o_D1 := obj_below o_D1 hB48
            replace r_q4 := r_q4.below hB48
            replace r_q14 := r_q14.below hB48
            replace r_x9_0 := r_x9_0.below hB48
            refine put_split (decide (acc = toldR s 0 ((pcsR s).take (((pcsR s).length : Nat) : Int).toNat))) ?_ ?_
            · intro h50
              refine L_pickT (by kernel_rfl) (L_as (L_nil (thenQ_normal (W_ret (end_retM (ds := [⟨.collected w32.heap.size, #[]⟩, ⟨.collected w21.heap.size, #[]⟩]) (by kernel_rfl) (Lv_mark o_D1 ?_))))))
              intro w51 hW52
              replace hb := hb.trans (hW52.below hs_1)
              replace hs := Nat.le_trans hs (Nat.le_of_eq hW52.size.symm)
              have n_o_cb11 := obj_wrote o_cb11 hW52 (obj_ne o_cb11 o_D1 (by simp))
              have n_o_x9 := obj_wrote o_x9 hW52 (obj_ne o_x9 o_D1 (by simp))
              have n_o_D0 := obj_wrote o_D0 hW52 ne_D0_D1
              have n_r_q4 := r_q4.wrote hW52 (r_q4.ne o_D1 (by simp))
              have n_r_q14 := r_q14.wrote hW52 (r_q14.ne o_D1 (by simp))
              have n_r_x9_0 := r_x9_0.wrote hW52 (r_x9_0.ne o_D1 (by simp))
              replace o_cb11 := n_o_cb11; clear n_o_cb11
              replace o_x9 := n_o_x9; clear n_o_x9
              replace o_D0 := n_o_D0; clear n_o_D0
              replace r_q4 := n_r_q4; clear n_r_q4
              replace r_q14 := n_r_q14; clear n_r_q14
              replace r_x9_0 := n_r_x9_0; clear n_r_x9_0
              replace o_D1 := hW52.here
              refine Lv_mark o_D0 ?_
              intro w53 hW54
              replace hb := hb.trans (hW54.below hs_0)
              replace hs := Nat.le_trans hs (Nat.le_of_eq hW54.size.symm)
              have n_o_cb11 := obj_wrote o_cb11 hW54 (obj_ne o_cb11 o_D0 (by simp))
              have n_o_x9 := obj_wrote o_x9 hW54 (obj_ne o_x9 o_D0 (by simp))
              have n_o_D1 := obj_wrote o_D1 hW54 (obj_ne o_D1 o_D0 (by simp))
              have n_r_q4 := r_q4.wrote hW54 (r_q4.ne o_D0 (by simp))
              have n_r_q14 := r_q14.wrote hW54 (r_q14.ne o_D0 (by simp))
              have n_r_x9_0 := r_x9_0.wrote hW54 (r_x9_0.ne o_D0 (by simp))
              replace o_cb11 := n_o_cb11; clear n_o_cb11
              replace o_x9 := n_o_x9; clear n_o_x9
              replace o_D1 := n_o_D1; clear n_o_D1
              replace r_q4 := n_r_q4; clear n_r_q4
              replace r_q14 := n_r_q14; clear n_r_q14
              replace r_x9_0 := n_r_x9_0; clear n_r_x9_0
              replace o_D0 := hW54.here
              refine Lv_nil [.tmp 4] [(.bool true)] rfl ⟨by kernel_rfl, trivial⟩ ?_
              have e0 : true = true := by first | rfl | (simp; done)
              exact ⟨congrArg Value.bool e0, hb⟩
            · intro h55
              exfalso; rw [p1, told_all] at h55; simp at h55
          · intro h56
            exfalso; rw [all_some (by omega) (by omega)] at h56; simp at h56
        · intro K c _ x A _ h; exact h.elim
      · intro K c _ x A _ h; exact h.elim
    · intro h57
      replace h57 : (((pcsR s).length : Nat) : Int) ≤ few := by omega
      refine L_pickT (by kernel_rfl) (L_nil (thenQ_normal (W_false (by kernel_rfl) (W_skip (thenQ_normal (W_seq (W_region (L_mv (L_mv (L_call 19 [(S s), (.int .i64 few)] (by kernel_rfl) (by kernel_rfl) (c_furrowlaw03_all s few _ (by first | omega | assumption | exact okPc_R s | (rw [p1]; omega))) ?_))))))))))
      rintro q58 w59 ⟨_, rfl, r_q58, hB60⟩
      replace r_q58 := r_q58.base hs
      replace hb := hb.trans (hB60.mono hs)
      replace hs := Nat.le_trans hs (hB60.size)
      replace o_cb11 := obj_below o_cb11 hB60
      replace r_q4 := r_q4.below hB60
      have := allF_len s few
      refine L_as (L_nil (thenQ_normal (W_seq (W_region (L_new (fun b => .pointer (some ⟨b, 0, none⟩)) (.cells [(.slice none 0 0)].toArray 28 (0, 0)) (by kernel_rfl) (by kernel_rfl) ?_)))))
      intro b62 w63 hN64
      have ne_cb11_x9 : cb11 ≠ b62 := by have := obj_lt o_cb11; have := hN64.num; omega
      have ne_x9_cb11 := ne_cb11_x9.symm
      have g_x9 : w.heap.size ≤ b62 := by rw [hN64.num]; exact hs
      replace hb := hb.trans (hN64.below.mono hs)
      replace hs := Nat.le_trans hs (hN64.below.size)
      replace o_cb11 := obj_below o_cb11 hN64.below
      replace r_q4 := r_q4.below hN64.below
      replace r_q58 := r_q58.below hN64.below
      have o_x9 := hN64.here
      refine L_nil (thenQ_normal (W_seq (W_seq (W_region (L_mv (L_nil (thenQ_normal (W_block (W_unroll 3 (W_seq (W_region (L_run (.bool true) (by kernel_rfl) (by kernel_rfl) (L_nil (thenQ_normal (W_seq (W_true (by kernel_rfl) (W_skip (thenQ_normal (W_seq (W_block (W_seq (W_region (L_store b62 0 (.slice none 0 0) [(.slice none 0 0)] [(.slice none 0 0)] 28 (by kernel_rfl) (by kernel_rfl) rfl (by kernel_rfl) o_x9 (by simp) rfl ?_)))))))))))))))))))))))
      intro w65 hW66
      replace hb := hb.trans (hW66.below g_x9)
      replace hs := Nat.le_trans hs (Nat.le_of_eq hW66.size.symm)
      have n_o_cb11 := obj_wrote o_cb11 hW66 (obj_ne o_cb11 o_x9 (by simp))
      have n_r_q4 := r_q4.wrote hW66 (r_q4.ne o_x9 (by simp))
      have n_r_q58 := r_q58.wrote hW66 (r_q58.ne o_x9 (by simp))
      replace o_cb11 := n_o_cb11; clear n_o_cb11
      replace r_q4 := n_r_q4; clear n_r_q4
      replace r_q58 := n_r_q58; clear n_r_q58
      replace o_x9 := hW66.here
      refine L_nil (thenQ_normal (W_seq (W_region (L_mv (L_nil (thenQ_normal (W_block ?_)))))))
      have lt_cb11_0 : cb11 < w65.heap.size := obj_lt o_cb11
      have lt_x9_0 : b62 < w65.heap.size := obj_lt o_x9
      have hs_0 := hs
      have hb_0 := hb
      refine W_range 43 [(.pointer (some ⟨cb11, 0, none⟩))] (toldF s) (by kernel_rfl) (fun _ _ => rfl) (it_lines_Each_1 cb11 s (by first | omega | assumption | exact okPc_R s | (rw [p1]; omega))) o_cb11 ((fun D A B h hc hd => obj_ch h hc (fun h => Nat.not_lt.2 (hd _ h) lt_cb11_0))) (by intro x; rfl) (fun K pre A => ∃ (acc : List (Int × List UInt8)) (v_x9_0 : Value), (A.heap[cb11]? = some (.cells [(S s)].toArray 9 (0, 0))) ∧ (A.heap[b62]? = some (.cells [v_x9_0].toArray 28 (0, 0))) ∧ (Row A w.heap.size 75 3 encPcN q4 (pcsR s)) ∧ (∀ g, Value.ownBlock q4 = some g → ¬ Iv w65.heap.size K g) ∧ (Row A w.heap.size 31 2 encTold q58 (allF s few)) ∧ (∀ g, Value.ownBlock q58 = some g → ¬ Iv w65.heap.size K g) ∧ (Row A w.heap.size 31 2 encTold v_x9_0 acc) ∧ (∀ g, Value.ownBlock v_x9_0 = some g → ¬ Iv w65.heap.size K g) ∧ (Value.ownBlock q58 = none ∨ Value.ownBlock q58 ≠ Value.ownBlock v_x9_0) ∧ (Value.ownBlock v_x9_0 = none ∨ Value.ownBlock v_x9_0 ≠ Value.ownBlock q58) ∧ (Below w.heap.size w A) ∧ (acc = pre)) (fun K c pre A => False) ?_ ?_ ?_ ?_ ?_ ?_
      · intro A hA
        exact ⟨[], (.slice none 0 0), obj_below o_cb11 hA, obj_below o_x9 hA, r_q4.below hA, nr_old r_q4 _, r_q58.below hA, nr_old r_q58 _, Row.nil _ _ _ _ _, nr_nil _ _, ap_nil _, (.inl rfl), hb.trans (hA.mono hs), by rfl⟩
      · rintro K pre A B ⟨acc, v_x9_0, o_cb11, o_x9, r_q4, nr_r_q4, r_q58, nr_r_q58, r_x9_0, nr_r_x9_0, ap_r_q58_r_x9_0, ap_r_x9_0_r_q58, hb, p1⟩ hc
        exact ⟨acc, v_x9_0, obj_ch o_cb11 hc (fun h => Nat.not_lt.2 h.1 lt_cb11_0), obj_ch o_x9 hc (fun h => Nat.not_lt.2 h.1 lt_x9_0), r_q4.ch hc nr_r_q4, nr_r_q4, r_q58.ch hc nr_r_q58, nr_r_q58, r_x9_0.ch hc nr_r_x9_0, nr_r_x9_0, ap_r_q58_r_x9_0, ap_r_x9_0_r_q58, hc.below hb hb.size (fun k h => Nat.le_trans hs_0 h.1), p1⟩
      · intro K c _ A B h hc; exact h.elim
      · intro l K pre x A hi hN hK0 hK hpre
        obtain ⟨acc, v_x9_0, o_cb11, o_x9, r_q4, nr_r_q4, r_q58, nr_r_q58, r_x9_0, nr_r_x9_0, ap_r_q58_r_x9_0, ap_r_x9_0_r_q58, hb, p1⟩ := hi
        have hs := hb.size
        have hk := Kp.refl (w65.heap.size) K A
        have nv_cb11 : ¬ Iv (w65.heap.size) K cb11 := fun h => Nat.not_lt.2 h.1 lt_cb11_0
        have nv_x9 : ¬ Iv (w65.heap.size) K b62 := fun h => Nat.not_lt.2 h.1 lt_x9_0
        replace o_cb11 := hN
        have hpl := pre_lt hpre
        have htl := told_len s
        have hsh := told_short (pre_mem hpre)
        have hal : acc.length = pre.length := by rw [p1]
        refine W_seq (W_region (L_as (L_nil (thenQ_normal (W_region (L_as (L_nil ?_)))))))
        refine thenQ_normal ⟨hk, ?_⟩
        intro w67 hc68
        replace o_cb11 := obj_ch o_cb11 hc68 nv_cb11
        replace o_x9 := obj_ch o_x9 hc68 nv_x9
        replace r_q4 := r_q4.ch hc68 nr_r_q4
        replace r_q58 := r_q58.ch hc68 nr_r_q58
        replace r_x9_0 := r_x9_0.ch hc68 nr_r_x9_0
        replace hb := hc68.below hb hs (fun k h => Nat.le_trans hs_0 h.1)
        replace hs := hb.size
        replace hK := Nat.le_trans hK hc68.size
        replace hk := Kp.refl (w65.heap.size) K w67
        refine W_block (W_region (L_load b62 0 v_x9_0 (by kernel_rfl) (by kernel_rfl) (cell_obj o_x9 rfl) (L_mv (L_mv (L_run (Value.agg #[(.int .i64 x.1), (S x.2)]) (by kernel_rfl) (by kernel_rfl) (L_app el28 w.heap.size v_x9_0 acc (x.1, x.2) hs r_x9_0 (by omega) (by kernel_rfl) rfl rfl (by kernel_rfl) rfl (by kernel_rfl) (by kernel_rfl) ?_))))))
        intro v69 w70 hr71 hg72 how73
        have nr2 := nr_app how73 nr_r_x9_0 hK
        have nap_r_q58 := ap_app r_q58 how73 ap_r_q58_r_x9_0
        replace hb := hb.grown hg72 hs (fun k hk => (World.ownsRow.lt r_x9_0 k hk).1)
        replace hk := hk.ch (Ch.of_grown hg72) hK (fun k e => nr_r_x9_0 k e)
        replace hK := Nat.le_trans hK (hg72.size)
        replace hs := Nat.le_trans hs (hg72.size)
        have n_o_cb11 := obj_grown o_cb11 hg72 (r_x9_0.ne o_cb11 (by simp))
        have n_o_x9 := obj_grown o_x9 hg72 (r_x9_0.ne o_x9 (by simp))
        have n_r_q4 := r_q4.grown hg72 (r_q4.apart r_x9_0 (by kernel_rfl))
        have n_r_q58 := r_q58.grown hg72 ap_r_q58_r_x9_0
        replace o_cb11 := n_o_cb11; clear n_o_cb11
        replace o_x9 := n_o_x9; clear n_o_x9
        replace r_q4 := n_r_q4; clear n_r_q4
        replace r_q58 := n_r_q58; clear n_r_q58
        have ap_r_q58_r_x9_0 := nap_r_q58; have ap_r_x9_0_r_q58 := ap_comm nap_r_q58
        replace r_x9_0 := hr71
        have nr_r_x9_0 := nr2; clear nr2
        refine L_store b62 0 v69 [v_x9_0] [v69] 28 (by kernel_rfl) (by kernel_rfl) r_x9_0.one (by kernel_rfl) o_x9 (by simp) rfl ?_
        intro w74 hW75
        replace hb := hb.trans (hW75.below g_x9)
        replace hk := hk.ch (Ch.of_wrote hW75) hK (fun k e h => nv_x9 (e ▸ h))
        replace hK := Nat.le_trans hK (Nat.le_of_eq hW75.size.symm)
        replace hs := Nat.le_trans hs (Nat.le_of_eq hW75.size.symm)
        have n_o_cb11 := obj_wrote o_cb11 hW75 (obj_ne o_cb11 o_x9 (by simp))
        have n_r_q4 := r_q4.wrote hW75 (r_q4.ne o_x9 (by simp))
        have n_r_q58 := r_q58.wrote hW75 (r_q58.ne o_x9 (by simp))
        have n_r_x9_0 := r_x9_0.wrote hW75 (r_x9_0.ne o_x9 (by simp))
        replace o_cb11 := n_o_cb11; clear n_o_cb11
        replace r_q4 := n_r_q4; clear n_r_q4
        replace r_q58 := n_r_q58; clear n_r_q58
        replace r_x9_0 := n_r_x9_0; clear n_r_x9_0
        replace o_x9 := hW75.here
        refine L_nil (blkQ_normal ?_)
        refine round_normal hk o_cb11 ⟨(acc ++ [(x.1, x.2)]), v69, o_cb11, o_x9, r_q4, nr_r_q4, r_q58, nr_r_q58, r_x9_0, nr_r_x9_0, ap_r_q58_r_x9_0, ap_r_x9_0_r_q58, hb, ?_⟩
        · rw [p1]
      · intro K A hi hsz o_D0
        obtain ⟨acc, v_x9_0, o_cb11, o_x9, r_q4, nr_r_q4, r_q58, nr_r_q58, r_x9_0, nr_r_x9_0, ap_r_q58_r_x9_0, ap_r_x9_0_r_q58, hb, p1⟩ := hi
        have ne_cb11_D0 : cb11 ≠ w65.heap.size := Nat.ne_of_lt lt_cb11_0
        have ne_D0_cb11 := ne_cb11_D0.symm
        have ne_x9_D0 : b62 ≠ w65.heap.size := Nat.ne_of_lt lt_x9_0
        have ne_D0_x9 := ne_x9_D0.symm
        have hs : w.heap.size ≤ _ := hb.size
        refine blkQ_normal (blkQ_normal (thenQ_normal (W_region (L_addN 0 1 (by omega) (by kernel_rfl) (by kernel_rfl) (L_mv (L_nil (thenQ_round (W_seq (W_region (L_run (.bool true) (by kernel_rfl) (by kernel_rfl) (L_nil (thenQ_normal (W_seq (W_true (by kernel_rfl) (W_skip (thenQ_normal (W_seq (W_block (W_seq (W_region (L_store b62 0 (.slice none 0 0) [v_x9_0] [(.slice none 0 0)] 28 (by kernel_rfl) (by kernel_rfl) rfl (by kernel_rfl) o_x9 (by simp) rfl ?_)))))))))))))))))))))
        intro w76 hW77
        replace hb := hb.trans (hW77.below g_x9)
        replace hs := Nat.le_trans hs (Nat.le_of_eq hW77.size.symm)
        have n_o_cb11 := obj_wrote o_cb11 hW77 (obj_ne o_cb11 o_x9 (by simp))
        have n_o_D0 := obj_wrote o_D0 hW77 (obj_ne o_D0 o_x9 (by simp))
        have n_r_q4 := r_q4.wrote hW77 (r_q4.ne o_x9 (by simp))
        have n_r_q58 := r_q58.wrote hW77 (r_q58.ne o_x9 (by simp))
        have n_r_x9_0 := r_x9_0.wrote hW77 (r_x9_0.ne o_x9 (by simp))
        replace o_cb11 := n_o_cb11; clear n_o_cb11
        replace o_D0 := n_o_D0; clear n_o_D0
        replace r_q4 := n_r_q4; clear n_r_q4
        replace r_q58 := n_r_q58; clear n_r_q58
        replace r_x9_0 := n_r_x9_0; clear n_r_x9_0
        replace o_x9 := hW77.here
        refine L_nil (thenQ_normal (W_seq (W_region (L_mv (L_nil (thenQ_normal (W_block ?_)))))))
        have lt_cb11_1 : cb11 < w76.heap.size := obj_lt o_cb11
        have lt_x9_1 : b62 < w76.heap.size := obj_lt o_x9
        have lt_D0_1 : w65.heap.size < w76.heap.size := obj_lt o_D0
        have hs_1 := hs
        have hb_1 := hb
        refine W_range 43 [(.pointer (some ⟨cb11, 0, none⟩))] (toldF s) (by kernel_rfl) (fun _ _ => rfl) (it_lines_Each_1 cb11 s (by first | omega | assumption | exact okPc_R s | (rw [p1]; omega))) o_cb11 ((fun D A B h hc hd => obj_ch h hc (fun h => Nat.not_lt.2 (hd _ h) lt_cb11_1))) (by intro x; rfl) (fun K pre A => ∃ (acc : List (Int × List UInt8)) (v_x9_0 : Value), (A.heap[cb11]? = some (.cells [(S s)].toArray 9 (0, 0))) ∧ (A.heap[b62]? = some (.cells [v_x9_0].toArray 28 (0, 0))) ∧ (A.heap[w65.heap.size]? = some (.deferred (some []))) ∧ (Row A w.heap.size 75 3 encPcN q4 (pcsR s)) ∧ (∀ g, Value.ownBlock q4 = some g → ¬ Iv w76.heap.size K g) ∧ (Row A w.heap.size 31 2 encTold q58 (allF s few)) ∧ (∀ g, Value.ownBlock q58 = some g → ¬ Iv w76.heap.size K g) ∧ (Row A w.heap.size 31 2 encTold v_x9_0 acc) ∧ (∀ g, Value.ownBlock v_x9_0 = some g → ¬ Iv w76.heap.size K g) ∧ (Value.ownBlock q58 = none ∨ Value.ownBlock q58 ≠ Value.ownBlock v_x9_0) ∧ (Value.ownBlock v_x9_0 = none ∨ Value.ownBlock v_x9_0 ≠ Value.ownBlock q58) ∧ (Below w.heap.size w A) ∧ (acc = pre)) (fun K c pre A => False) ?_ ?_ ?_ ?_ ?_ ?_
        · intro A hA
          exact ⟨[], (.slice none 0 0), obj_below o_cb11 hA, obj_below o_x9 hA, obj_below o_D0 hA, r_q4.below hA, nr_old r_q4 _, r_q58.below hA, nr_old r_q58 _, Row.nil _ _ _ _ _, nr_nil _ _, ap_nil _, (.inl rfl), hb.trans (hA.mono hs), by rfl⟩
        · rintro K pre A B ⟨acc, v_x9_0, o_cb11, o_x9, o_D0, r_q4, nr_r_q4, r_q58, nr_r_q58, r_x9_0, nr_r_x9_0, ap_r_q58_r_x9_0, ap_r_x9_0_r_q58, hb, p1⟩ hc
          exact ⟨acc, v_x9_0, obj_ch o_cb11 hc (fun h => Nat.not_lt.2 h.1 lt_cb11_1), obj_ch o_x9 hc (fun h => Nat.not_lt.2 h.1 lt_x9_1), obj_ch o_D0 hc (fun h => Nat.not_lt.2 h.1 lt_D0_1), r_q4.ch hc nr_r_q4, nr_r_q4, r_q58.ch hc nr_r_q58, nr_r_q58, r_x9_0.ch hc nr_r_x9_0, nr_r_x9_0, ap_r_q58_r_x9_0, ap_r_x9_0_r_q58, hc.below hb hb.size (fun k h => Nat.le_trans hs_1 h.1), p1⟩
        · intro K c _ A B h hc; exact h.elim
        · intro l K pre x A hi hN hK0 hK hpre
          obtain ⟨acc, v_x9_0, o_cb11, o_x9, o_D0, r_q4, nr_r_q4, r_q58, nr_r_q58, r_x9_0, nr_r_x9_0, ap_r_q58_r_x9_0, ap_r_x9_0_r_q58, hb, p1⟩ := hi
          have hs := hb.size
          have hk := Kp.refl (w76.heap.size) K A
          have nv_cb11 : ¬ Iv (w76.heap.size) K cb11 := fun h => Nat.not_lt.2 h.1 lt_cb11_1
          have nv_x9 : ¬ Iv (w76.heap.size) K b62 := fun h => Nat.not_lt.2 h.1 lt_x9_1
          have nv_D0 : ¬ Iv (w76.heap.size) K w65.heap.size := fun h => Nat.not_lt.2 h.1 lt_D0_1
          replace o_cb11 := hN
          have hpl := pre_lt hpre
          have htl := told_len s
          have hsh := told_short (pre_mem hpre)
          have hal : acc.length = pre.length := by rw [p1]
          refine W_seq (W_region (L_as (L_nil (thenQ_normal (W_region (L_as (L_nil ?_)))))))
          refine thenQ_normal ⟨hk, ?_⟩
          intro w78 hc79
          replace o_cb11 := obj_ch o_cb11 hc79 nv_cb11
          replace o_x9 := obj_ch o_x9 hc79 nv_x9
          replace o_D0 := obj_ch o_D0 hc79 nv_D0
          replace r_q4 := r_q4.ch hc79 nr_r_q4
          replace r_q58 := r_q58.ch hc79 nr_r_q58
          replace r_x9_0 := r_x9_0.ch hc79 nr_r_x9_0
          replace hb := hc79.below hb hs (fun k h => Nat.le_trans hs_1 h.1)
          replace hs := hb.size
          replace hK := Nat.le_trans hK hc79.size
          replace hk := Kp.refl (w76.heap.size) K w78
          refine W_block (W_region (L_load b62 0 v_x9_0 (by kernel_rfl) (by kernel_rfl) (cell_obj o_x9 rfl) (L_mv (L_mv (L_run (Value.agg #[(.int .i64 x.1), (S x.2)]) (by kernel_rfl) (by kernel_rfl) (L_app el28 w.heap.size v_x9_0 acc (x.1, x.2) hs r_x9_0 (by omega) (by kernel_rfl) rfl rfl (by kernel_rfl) rfl (by kernel_rfl) (by kernel_rfl) ?_))))))
          intro v80 w81 hr82 hg83 how84
          have nr2 := nr_app how84 nr_r_x9_0 hK
          have nap_r_q58 := ap_app r_q58 how84 ap_r_q58_r_x9_0
          replace hb := hb.grown hg83 hs (fun k hk => (World.ownsRow.lt r_x9_0 k hk).1)
          replace hk := hk.ch (Ch.of_grown hg83) hK (fun k e => nr_r_x9_0 k e)
          replace hK := Nat.le_trans hK (hg83.size)
          replace hs := Nat.le_trans hs (hg83.size)
          have n_o_cb11 := obj_grown o_cb11 hg83 (r_x9_0.ne o_cb11 (by simp))
          have n_o_x9 := obj_grown o_x9 hg83 (r_x9_0.ne o_x9 (by simp))
          have n_o_D0 := obj_grown o_D0 hg83 (r_x9_0.ne o_D0 (by simp))
          have n_r_q4 := r_q4.grown hg83 (r_q4.apart r_x9_0 (by kernel_rfl))
          have n_r_q58 := r_q58.grown hg83 ap_r_q58_r_x9_0
          replace o_cb11 := n_o_cb11; clear n_o_cb11
          replace o_x9 := n_o_x9; clear n_o_x9
          replace o_D0 := n_o_D0; clear n_o_D0
          replace r_q4 := n_r_q4; clear n_r_q4
          replace r_q58 := n_r_q58; clear n_r_q58
          have ap_r_q58_r_x9_0 := nap_r_q58; have ap_r_x9_0_r_q58 := ap_comm nap_r_q58
          replace r_x9_0 := hr82
          have nr_r_x9_0 := nr2; clear nr2
          refine L_store b62 0 v80 [v_x9_0] [v80] 28 (by kernel_rfl) (by kernel_rfl) r_x9_0.one (by kernel_rfl) o_x9 (by simp) rfl ?_
          intro w85 hW86
          replace hb := hb.trans (hW86.below g_x9)
          replace hk := hk.ch (Ch.of_wrote hW86) hK (fun k e h => nv_x9 (e ▸ h))
          replace hK := Nat.le_trans hK (Nat.le_of_eq hW86.size.symm)
          replace hs := Nat.le_trans hs (Nat.le_of_eq hW86.size.symm)
          have n_o_cb11 := obj_wrote o_cb11 hW86 (obj_ne o_cb11 o_x9 (by simp))
          have n_o_D0 := obj_wrote o_D0 hW86 (obj_ne o_D0 o_x9 (by simp))
          have n_r_q4 := r_q4.wrote hW86 (r_q4.ne o_x9 (by simp))
          have n_r_q58 := r_q58.wrote hW86 (r_q58.ne o_x9 (by simp))
          have n_r_x9_0 := r_x9_0.wrote hW86 (r_x9_0.ne o_x9 (by simp))
          replace o_cb11 := n_o_cb11; clear n_o_cb11
          replace o_D0 := n_o_D0; clear n_o_D0
          replace r_q4 := n_r_q4; clear n_r_q4
          replace r_q58 := n_r_q58; clear n_r_q58
          replace r_x9_0 := n_r_x9_0; clear n_r_x9_0
          replace o_x9 := hW86.here
          refine L_nil (blkQ_normal ?_)
          refine round_normal hk o_cb11 ⟨(acc ++ [(x.1, x.2)]), v80, o_cb11, o_x9, o_D0, r_q4, nr_r_q4, r_q58, nr_r_q58, r_x9_0, nr_r_x9_0, ap_r_q58_r_x9_0, ap_r_x9_0_r_q58, hb, ?_⟩
          · rw [p1]
        · intro K A hi hsz o_D1
          obtain ⟨acc, v_x9_0, o_cb11, o_x9, o_D0, r_q4, nr_r_q4, r_q58, nr_r_q58, r_x9_0, nr_r_x9_0, ap_r_q58_r_x9_0, ap_r_x9_0_r_q58, hb, p1⟩ := hi
          have ne_cb11_D1 : cb11 ≠ w76.heap.size := Nat.ne_of_lt lt_cb11_1
          have ne_D1_cb11 := ne_cb11_D1.symm
          have ne_x9_D1 : b62 ≠ w76.heap.size := Nat.ne_of_lt lt_x9_1
          have ne_D1_x9 := ne_x9_D1.symm
          have ne_D0_D1 : w65.heap.size ≠ w76.heap.size := Nat.ne_of_lt lt_D0_1
          have ne_D1_D0 := ne_D0_D1.symm
          have hs : w.heap.size ≤ _ := hb.size
          refine blkQ_normal (blkQ_normal (thenQ_normal (W_region (L_addN 1 1 (by omega) (by kernel_rfl) (by kernel_rfl) (L_mv (L_nil (thenQ_round (W_seq (W_region (L_run (.bool false) (by kernel_rfl) (by kernel_rfl) (L_nil (thenQ_normal (W_seq (W_false (by kernel_rfl) (W_exit (thenQ_exit (thenQ_exit (blkQ_exit (thenQ_normal (W_seq (W_region (L_mv (L_mv (L_mv (L_mv (L_call 20 [q58, (S s), q4, (.int .i64 (((pcsR s).length : Nat) : Int))] (by kernel_rfl) (by kernel_rfl) (c_furrowlaw03_sameTold q58 (allF s few) s q4 (pcsR s) (((pcsR s).length : Nat) : Int) _ r_q58.rd r_q4.rd (by first | omega | assumption | exact okPc_R s | (rw [p1]; omega)) (by first | omega | assumption | exact okPc_R s | (rw [p1]; omega)) (by first | omega | assumption | exact okPc_R s | (rw [p1]; omega)) (by first | omega | assumption | exact okPc_R s | (rw [p1]; omega)) (by first | omega | assumption | exact okPc_R s | (rw [p1]; omega)) (by first | omega | assumption | exact okPc_R s | (rw [p1]; omega))) ?_))))))))))))))))))))))))))
          rintro _ w87 ⟨rfl, hB88⟩
          replace hb := hb.trans (hB88.mono hs)
          replace hs := Nat.le_trans hs (hB88.size)
          replace o_cb11 := obj_below o_cb11 hB88
          replace o_x9 := obj_below o_x9 hB88
          replace o_D0 := obj_below o_D0 hB88
          replace o_D1 := obj_below o_D1 hB88
          replace r_q4 := r_q4.below hB88
          replace r_q58 := r_q58.below hB88
          replace r_x9_0 := r_x9_0.below hB88
          refine put_split (decide ((allF s few) = toldR s 0 ((pcsR s).take (((pcsR s).length : Nat) : Int).toNat))) ?_ ?_
          · intro h90
            refine L_mv (L_want (by kernel_rfl) (L_load b62 0 v_x9_0 (by kernel_rfl) (by kernel_rfl) (cell_obj o_x9 rfl) (L_want (by kernel_rfl) (L_mv (L_want (by kernel_rfl) (L_mv (L_want (by kernel_rfl) (L_mv (L_want (by kernel_rfl) (L_len 23 75 (pcsR s).length q4 rfl Tryd.underlying23 (r_q4.rd).len (by kernel_rfl) (L_want (by kernel_rfl) (L_call 20 [v_x9_0, (S s), q4, (.int .i64 (((pcsR s).length : Nat) : Int))] (by kernel_rfl) (by kernel_rfl) (c_furrowlaw03_sameTold v_x9_0 acc s q4 (pcsR s) (((pcsR s).length : Nat) : Int) _ r_x9_0.rd r_q4.rd (by first | omega | assumption | exact okPc_R s | (rw [p1]; omega)) (by first | omega | assumption | exact okPc_R s | (rw [p1]; omega)) (by first | omega | assumption | exact okPc_R s | (rw [p1]; omega)) (by first | omega | assumption | exact okPc_R s | (rw [p1]; omega)) (by first | omega | assumption | exact okPc_R s | (rw [p1]; omega)) (by first | omega | assumption | exact okPc_R s | (rw [p1]; omega))) ?_))))))))))))
            rintro _ w91 ⟨rfl, hB92⟩
            replace hb := hb.trans (hB92.mono hs)
            replace hs := Nat.le_trans hs (hB92.size)
            replace o_cb11 := obj_below o_cb11 hB92
            replace o_x9 := obj_below o_x9 hB92
            replace o_D0 := obj_below o_D0 hB92
            replace o_D1 := obj_below o_D1 hB92
            replace r_q4 := r_q4.below hB92
            replace r_q58 := r_q58.below hB92
            replace r_x9_0 := r_x9_0.below hB92
            refine put_split (decide (acc = toldR s 0 ((pcsR s).take (((pcsR s).length : Nat) : Int).toNat))) ?_ ?_
            · intro h94
              refine L_pickT (by kernel_rfl) (L_as (L_nil (thenQ_normal (W_ret (end_retM (ds := [⟨.collected w76.heap.size, #[]⟩, ⟨.collected w65.heap.size, #[]⟩]) (by kernel_rfl) (Lv_mark o_D1 ?_))))))
              intro w95 hW96
              replace hb := hb.trans (hW96.below hs_1)
              replace hs := Nat.le_trans hs (Nat.le_of_eq hW96.size.symm)
              have n_o_cb11 := obj_wrote o_cb11 hW96 (obj_ne o_cb11 o_D1 (by simp))
              have n_o_x9 := obj_wrote o_x9 hW96 (obj_ne o_x9 o_D1 (by simp))
              have n_o_D0 := obj_wrote o_D0 hW96 ne_D0_D1
              have n_r_q4 := r_q4.wrote hW96 (r_q4.ne o_D1 (by simp))
              have n_r_q58 := r_q58.wrote hW96 (r_q58.ne o_D1 (by simp))
              have n_r_x9_0 := r_x9_0.wrote hW96 (r_x9_0.ne o_D1 (by simp))
              replace o_cb11 := n_o_cb11; clear n_o_cb11
              replace o_x9 := n_o_x9; clear n_o_x9
              replace o_D0 := n_o_D0; clear n_o_D0
              replace r_q4 := n_r_q4; clear n_r_q4
              replace r_q58 := n_r_q58; clear n_r_q58
              replace r_x9_0 := n_r_x9_0; clear n_r_x9_0
              replace o_D1 := hW96.here
              refine Lv_mark o_D0 ?_
              intro w97 hW98
              replace hb := hb.trans (hW98.below hs_0)
              replace hs := Nat.le_trans hs (Nat.le_of_eq hW98.size.symm)
              have n_o_cb11 := obj_wrote o_cb11 hW98 (obj_ne o_cb11 o_D0 (by simp))
              have n_o_x9 := obj_wrote o_x9 hW98 (obj_ne o_x9 o_D0 (by simp))
              have n_o_D1 := obj_wrote o_D1 hW98 (obj_ne o_D1 o_D0 (by simp))
              have n_r_q4 := r_q4.wrote hW98 (r_q4.ne o_D0 (by simp))
              have n_r_q58 := r_q58.wrote hW98 (r_q58.ne o_D0 (by simp))
              have n_r_x9_0 := r_x9_0.wrote hW98 (r_x9_0.ne o_D0 (by simp))
              replace o_cb11 := n_o_cb11; clear n_o_cb11
              replace o_x9 := n_o_x9; clear n_o_x9
              replace o_D1 := n_o_D1; clear n_o_D1
              replace r_q4 := n_r_q4; clear n_r_q4
              replace r_q58 := n_r_q58; clear n_r_q58
              replace r_x9_0 := n_r_x9_0; clear n_r_x9_0
              replace o_D0 := hW98.here
              refine Lv_nil [.tmp 4] [(.bool true)] rfl ⟨by kernel_rfl, trivial⟩ ?_
              have e0 : true = true := by first | rfl | (simp; done)
              exact ⟨congrArg Value.bool e0, hb⟩
            · intro h99
              exfalso; rw [p1, told_all] at h99; simp at h99
          · intro h100
            exfalso; rw [all_none (by omega)] at h100; simp at h100
        · intro K c _ x A _ h; exact h.elim
      · intro K c _ x A _ h; exact h.elim
  · intro h101
    replace h101 : few < 1 := by omega
    refine L_mv (L_skip (by kernel_rfl) (L_skip (by kernel_rfl) (L_skip (by kernel_rfl) (L_pickF (by kernel_rfl) (L_nil (thenQ_normal (W_false (by kernel_rfl) (W_skip (thenQ_normal (W_seq (W_region (L_mv (L_mv (L_call 19 [(S s), (.int .i64 few)] (by kernel_rfl) (by kernel_rfl) (c_furrowlaw03_all s few _ (by first | omega | assumption | exact okPc_R s | (rw [p1]; omega))) ?_))))))))))))))
    rintro q102 w103 ⟨_, rfl, r_q102, hB104⟩
    replace r_q102 := r_q102.base hs
    replace hb := hb.trans (hB104.mono hs)
    replace hs := Nat.le_trans hs (hB104.size)
    replace o_cb11 := obj_below o_cb11 hB104
    replace r_q4 := r_q4.below hB104
    have := allF_len s few
    refine L_as (L_nil (thenQ_normal (W_seq (W_region (L_new (fun b => .pointer (some ⟨b, 0, none⟩)) (.cells [(.slice none 0 0)].toArray 28 (0, 0)) (by kernel_rfl) (by kernel_rfl) ?_)))))
    intro b106 w107 hN108
    have ne_cb11_x9 : cb11 ≠ b106 := by have := obj_lt o_cb11; have := hN108.num; omega
    have ne_x9_cb11 := ne_cb11_x9.symm
    have g_x9 : w.heap.size ≤ b106 := by rw [hN108.num]; exact hs
    replace hb := hb.trans (hN108.below.mono hs)
    replace hs := Nat.le_trans hs (hN108.below.size)
    replace o_cb11 := obj_below o_cb11 hN108.below
    replace r_q4 := r_q4.below hN108.below
    replace r_q102 := r_q102.below hN108.below
    have o_x9 := hN108.here
    refine L_nil (thenQ_normal (W_seq (W_seq (W_region (L_mv (L_nil (thenQ_normal (W_block (W_unroll 3 (W_seq (W_region (L_run (.bool true) (by kernel_rfl) (by kernel_rfl) (L_nil (thenQ_normal (W_seq (W_true (by kernel_rfl) (W_skip (thenQ_normal (W_seq (W_block (W_seq (W_region (L_store b106 0 (.slice none 0 0) [(.slice none 0 0)] [(.slice none 0 0)] 28 (by kernel_rfl) (by kernel_rfl) rfl (by kernel_rfl) o_x9 (by simp) rfl ?_)))))))))))))))))))))))
    intro w109 hW110
    replace hb := hb.trans (hW110.below g_x9)
    replace hs := Nat.le_trans hs (Nat.le_of_eq hW110.size.symm)
    have n_o_cb11 := obj_wrote o_cb11 hW110 (obj_ne o_cb11 o_x9 (by simp))
    have n_r_q4 := r_q4.wrote hW110 (r_q4.ne o_x9 (by simp))
    have n_r_q102 := r_q102.wrote hW110 (r_q102.ne o_x9 (by simp))
    replace o_cb11 := n_o_cb11; clear n_o_cb11
    replace r_q4 := n_r_q4; clear n_r_q4
    replace r_q102 := n_r_q102; clear n_r_q102
    replace o_x9 := hW110.here
    refine L_nil (thenQ_normal (W_seq (W_region (L_mv (L_nil (thenQ_normal (W_block ?_)))))))
    have lt_cb11_0 : cb11 < w109.heap.size := obj_lt o_cb11
    have lt_x9_0 : b106 < w109.heap.size := obj_lt o_x9
    have hs_0 := hs
    have hb_0 := hb
    refine W_range 43 [(.pointer (some ⟨cb11, 0, none⟩))] (toldF s) (by kernel_rfl) (fun _ _ => rfl) (it_lines_Each_1 cb11 s (by first | omega | assumption | exact okPc_R s | (rw [p1]; omega))) o_cb11 ((fun D A B h hc hd => obj_ch h hc (fun h => Nat.not_lt.2 (hd _ h) lt_cb11_0))) (by intro x; rfl) (fun K pre A => ∃ (acc : List (Int × List UInt8)) (v_x9_0 : Value), (A.heap[cb11]? = some (.cells [(S s)].toArray 9 (0, 0))) ∧ (A.heap[b106]? = some (.cells [v_x9_0].toArray 28 (0, 0))) ∧ (Row A w.heap.size 75 3 encPcN q4 (pcsR s)) ∧ (∀ g, Value.ownBlock q4 = some g → ¬ Iv w109.heap.size K g) ∧ (Row A w.heap.size 31 2 encTold q102 (allF s few)) ∧ (∀ g, Value.ownBlock q102 = some g → ¬ Iv w109.heap.size K g) ∧ (Row A w.heap.size 31 2 encTold v_x9_0 acc) ∧ (∀ g, Value.ownBlock v_x9_0 = some g → ¬ Iv w109.heap.size K g) ∧ (Value.ownBlock q102 = none ∨ Value.ownBlock q102 ≠ Value.ownBlock v_x9_0) ∧ (Value.ownBlock v_x9_0 = none ∨ Value.ownBlock v_x9_0 ≠ Value.ownBlock q102) ∧ (Below w.heap.size w A) ∧ (acc = pre)) (fun K c pre A => False) ?_ ?_ ?_ ?_ ?_ ?_
    · intro A hA
      exact ⟨[], (.slice none 0 0), obj_below o_cb11 hA, obj_below o_x9 hA, r_q4.below hA, nr_old r_q4 _, r_q102.below hA, nr_old r_q102 _, Row.nil _ _ _ _ _, nr_nil _ _, ap_nil _, (.inl rfl), hb.trans (hA.mono hs), by rfl⟩
    · rintro K pre A B ⟨acc, v_x9_0, o_cb11, o_x9, r_q4, nr_r_q4, r_q102, nr_r_q102, r_x9_0, nr_r_x9_0, ap_r_q102_r_x9_0, ap_r_x9_0_r_q102, hb, p1⟩ hc
      exact ⟨acc, v_x9_0, obj_ch o_cb11 hc (fun h => Nat.not_lt.2 h.1 lt_cb11_0), obj_ch o_x9 hc (fun h => Nat.not_lt.2 h.1 lt_x9_0), r_q4.ch hc nr_r_q4, nr_r_q4, r_q102.ch hc nr_r_q102, nr_r_q102, r_x9_0.ch hc nr_r_x9_0, nr_r_x9_0, ap_r_q102_r_x9_0, ap_r_x9_0_r_q102, hc.below hb hb.size (fun k h => Nat.le_trans hs_0 h.1), p1⟩
    · intro K c _ A B h hc; exact h.elim
    · intro l K pre x A hi hN hK0 hK hpre
      obtain ⟨acc, v_x9_0, o_cb11, o_x9, r_q4, nr_r_q4, r_q102, nr_r_q102, r_x9_0, nr_r_x9_0, ap_r_q102_r_x9_0, ap_r_x9_0_r_q102, hb, p1⟩ := hi
      have hs := hb.size
      have hk := Kp.refl (w109.heap.size) K A
      have nv_cb11 : ¬ Iv (w109.heap.size) K cb11 := fun h => Nat.not_lt.2 h.1 lt_cb11_0
      have nv_x9 : ¬ Iv (w109.heap.size) K b106 := fun h => Nat.not_lt.2 h.1 lt_x9_0
      replace o_cb11 := hN
      have hpl := pre_lt hpre
      have htl := told_len s
      have hsh := told_short (pre_mem hpre)
      have hal : acc.length = pre.length := by rw [p1]
      refine W_seq (W_region (L_as (L_nil (thenQ_normal (W_region (L_as (L_nil ?_)))))))
      refine thenQ_normal ⟨hk, ?_⟩
      intro w111 hc112
      replace o_cb11 := obj_ch o_cb11 hc112 nv_cb11
      replace o_x9 := obj_ch o_x9 hc112 nv_x9
      replace r_q4 := r_q4.ch hc112 nr_r_q4
      replace r_q102 := r_q102.ch hc112 nr_r_q102
      replace r_x9_0 := r_x9_0.ch hc112 nr_r_x9_0
      replace hb := hc112.below hb hs (fun k h => Nat.le_trans hs_0 h.1)
      replace hs := hb.size
      replace hK := Nat.le_trans hK hc112.size
      replace hk := Kp.refl (w109.heap.size) K w111
      refine W_block (W_region (L_load b106 0 v_x9_0 (by kernel_rfl) (by kernel_rfl) (cell_obj o_x9 rfl) (L_mv (L_mv (L_run (Value.agg #[(.int .i64 x.1), (S x.2)]) (by kernel_rfl) (by kernel_rfl) (L_app el28 w.heap.size v_x9_0 acc (x.1, x.2) hs r_x9_0 (by omega) (by kernel_rfl) rfl rfl (by kernel_rfl) rfl (by kernel_rfl) (by kernel_rfl) ?_))))))
      intro v113 w114 hr115 hg116 how117
      have nr2 := nr_app how117 nr_r_x9_0 hK
      have nap_r_q102 := ap_app r_q102 how117 ap_r_q102_r_x9_0
      replace hb := hb.grown hg116 hs (fun k hk => (World.ownsRow.lt r_x9_0 k hk).1)
      replace hk := hk.ch (Ch.of_grown hg116) hK (fun k e => nr_r_x9_0 k e)
      replace hK := Nat.le_trans hK (hg116.size)
      replace hs := Nat.le_trans hs (hg116.size)
      have n_o_cb11 := obj_grown o_cb11 hg116 (r_x9_0.ne o_cb11 (by simp))
      have n_o_x9 := obj_grown o_x9 hg116 (r_x9_0.ne o_x9 (by simp))
      have n_r_q4 := r_q4.grown hg116 (r_q4.apart r_x9_0 (by kernel_rfl))
      have n_r_q102 := r_q102.grown hg116 ap_r_q102_r_x9_0
      replace o_cb11 := n_o_cb11; clear n_o_cb11
      replace o_x9 := n_o_x9; clear n_o_x9
      replace r_q4 := n_r_q4; clear n_r_q4
      replace r_q102 := n_r_q102; clear n_r_q102
      have ap_r_q102_r_x9_0 := nap_r_q102; have ap_r_x9_0_r_q102 := ap_comm nap_r_q102
      replace r_x9_0 := hr115
      have nr_r_x9_0 := nr2; clear nr2
      refine L_store b106 0 v113 [v_x9_0] [v113] 28 (by kernel_rfl) (by kernel_rfl) r_x9_0.one (by kernel_rfl) o_x9 (by simp) rfl ?_
      intro w118 hW119
      replace hb := hb.trans (hW119.below g_x9)
      replace hk := hk.ch (Ch.of_wrote hW119) hK (fun k e h => nv_x9 (e ▸ h))
      replace hK := Nat.le_trans hK (Nat.le_of_eq hW119.size.symm)
      replace hs := Nat.le_trans hs (Nat.le_of_eq hW119.size.symm)
      have n_o_cb11 := obj_wrote o_cb11 hW119 (obj_ne o_cb11 o_x9 (by simp))
      have n_r_q4 := r_q4.wrote hW119 (r_q4.ne o_x9 (by simp))
      have n_r_q102 := r_q102.wrote hW119 (r_q102.ne o_x9 (by simp))
      have n_r_x9_0 := r_x9_0.wrote hW119 (r_x9_0.ne o_x9 (by simp))
      replace o_cb11 := n_o_cb11; clear n_o_cb11
      replace r_q4 := n_r_q4; clear n_r_q4
      replace r_q102 := n_r_q102; clear n_r_q102
      replace r_x9_0 := n_r_x9_0; clear n_r_x9_0
      replace o_x9 := hW119.here
      refine L_nil (blkQ_normal ?_)
      refine round_normal hk o_cb11 ⟨(acc ++ [(x.1, x.2)]), v113, o_cb11, o_x9, r_q4, nr_r_q4, r_q102, nr_r_q102, r_x9_0, nr_r_x9_0, ap_r_q102_r_x9_0, ap_r_x9_0_r_q102, hb, ?_⟩
      · rw [p1]
    · intro K A hi hsz o_D0
      obtain ⟨acc, v_x9_0, o_cb11, o_x9, r_q4, nr_r_q4, r_q102, nr_r_q102, r_x9_0, nr_r_x9_0, ap_r_q102_r_x9_0, ap_r_x9_0_r_q102, hb, p1⟩ := hi
      have ne_cb11_D0 : cb11 ≠ w109.heap.size := Nat.ne_of_lt lt_cb11_0
      have ne_D0_cb11 := ne_cb11_D0.symm
      have ne_x9_D0 : b106 ≠ w109.heap.size := Nat.ne_of_lt lt_x9_0
      have ne_D0_x9 := ne_x9_D0.symm
      have hs : w.heap.size ≤ _ := hb.size
      refine blkQ_normal (blkQ_normal (thenQ_normal (W_region (L_addN 0 1 (by omega) (by kernel_rfl) (by kernel_rfl) (L_mv (L_nil (thenQ_round (W_seq (W_region (L_run (.bool true) (by kernel_rfl) (by kernel_rfl) (L_nil (thenQ_normal (W_seq (W_true (by kernel_rfl) (W_skip (thenQ_normal (W_seq (W_block (W_seq (W_region (L_store b106 0 (.slice none 0 0) [v_x9_0] [(.slice none 0 0)] 28 (by kernel_rfl) (by kernel_rfl) rfl (by kernel_rfl) o_x9 (by simp) rfl ?_)))))))))))))))))))))
      intro w120 hW121
      replace hb := hb.trans (hW121.below g_x9)
      replace hs := Nat.le_trans hs (Nat.le_of_eq hW121.size.symm)
      have n_o_cb11 := obj_wrote o_cb11 hW121 (obj_ne o_cb11 o_x9 (by simp))
      have n_o_D0 := obj_wrote o_D0 hW121 (obj_ne o_D0 o_x9 (by simp))
      have n_r_q4 := r_q4.wrote hW121 (r_q4.ne o_x9 (by simp))
      have n_r_q102 := r_q102.wrote hW121 (r_q102.ne o_x9 (by simp))
      have n_r_x9_0 := r_x9_0.wrote hW121 (r_x9_0.ne o_x9 (by simp))
      replace o_cb11 := n_o_cb11; clear n_o_cb11
      replace o_D0 := n_o_D0; clear n_o_D0
      replace r_q4 := n_r_q4; clear n_r_q4
      replace r_q102 := n_r_q102; clear n_r_q102
      replace r_x9_0 := n_r_x9_0; clear n_r_x9_0
      replace o_x9 := hW121.here
      refine L_nil (thenQ_normal (W_seq (W_region (L_mv (L_nil (thenQ_normal (W_block ?_)))))))
      have lt_cb11_1 : cb11 < w120.heap.size := obj_lt o_cb11
      have lt_x9_1 : b106 < w120.heap.size := obj_lt o_x9
      have lt_D0_1 : w109.heap.size < w120.heap.size := obj_lt o_D0
      have hs_1 := hs
      have hb_1 := hb
      refine W_range 43 [(.pointer (some ⟨cb11, 0, none⟩))] (toldF s) (by kernel_rfl) (fun _ _ => rfl) (it_lines_Each_1 cb11 s (by first | omega | assumption | exact okPc_R s | (rw [p1]; omega))) o_cb11 ((fun D A B h hc hd => obj_ch h hc (fun h => Nat.not_lt.2 (hd _ h) lt_cb11_1))) (by intro x; rfl) (fun K pre A => ∃ (acc : List (Int × List UInt8)) (v_x9_0 : Value), (A.heap[cb11]? = some (.cells [(S s)].toArray 9 (0, 0))) ∧ (A.heap[b106]? = some (.cells [v_x9_0].toArray 28 (0, 0))) ∧ (A.heap[w109.heap.size]? = some (.deferred (some []))) ∧ (Row A w.heap.size 75 3 encPcN q4 (pcsR s)) ∧ (∀ g, Value.ownBlock q4 = some g → ¬ Iv w120.heap.size K g) ∧ (Row A w.heap.size 31 2 encTold q102 (allF s few)) ∧ (∀ g, Value.ownBlock q102 = some g → ¬ Iv w120.heap.size K g) ∧ (Row A w.heap.size 31 2 encTold v_x9_0 acc) ∧ (∀ g, Value.ownBlock v_x9_0 = some g → ¬ Iv w120.heap.size K g) ∧ (Value.ownBlock q102 = none ∨ Value.ownBlock q102 ≠ Value.ownBlock v_x9_0) ∧ (Value.ownBlock v_x9_0 = none ∨ Value.ownBlock v_x9_0 ≠ Value.ownBlock q102) ∧ (Below w.heap.size w A) ∧ (acc = pre)) (fun K c pre A => False) ?_ ?_ ?_ ?_ ?_ ?_
      · intro A hA
        exact ⟨[], (.slice none 0 0), obj_below o_cb11 hA, obj_below o_x9 hA, obj_below o_D0 hA, r_q4.below hA, nr_old r_q4 _, r_q102.below hA, nr_old r_q102 _, Row.nil _ _ _ _ _, nr_nil _ _, ap_nil _, (.inl rfl), hb.trans (hA.mono hs), by rfl⟩
      · rintro K pre A B ⟨acc, v_x9_0, o_cb11, o_x9, o_D0, r_q4, nr_r_q4, r_q102, nr_r_q102, r_x9_0, nr_r_x9_0, ap_r_q102_r_x9_0, ap_r_x9_0_r_q102, hb, p1⟩ hc
        exact ⟨acc, v_x9_0, obj_ch o_cb11 hc (fun h => Nat.not_lt.2 h.1 lt_cb11_1), obj_ch o_x9 hc (fun h => Nat.not_lt.2 h.1 lt_x9_1), obj_ch o_D0 hc (fun h => Nat.not_lt.2 h.1 lt_D0_1), r_q4.ch hc nr_r_q4, nr_r_q4, r_q102.ch hc nr_r_q102, nr_r_q102, r_x9_0.ch hc nr_r_x9_0, nr_r_x9_0, ap_r_q102_r_x9_0, ap_r_x9_0_r_q102, hc.below hb hb.size (fun k h => Nat.le_trans hs_1 h.1), p1⟩
      · intro K c _ A B h hc; exact h.elim
      · intro l K pre x A hi hN hK0 hK hpre
        obtain ⟨acc, v_x9_0, o_cb11, o_x9, o_D0, r_q4, nr_r_q4, r_q102, nr_r_q102, r_x9_0, nr_r_x9_0, ap_r_q102_r_x9_0, ap_r_x9_0_r_q102, hb, p1⟩ := hi
        have hs := hb.size
        have hk := Kp.refl (w120.heap.size) K A
        have nv_cb11 : ¬ Iv (w120.heap.size) K cb11 := fun h => Nat.not_lt.2 h.1 lt_cb11_1
        have nv_x9 : ¬ Iv (w120.heap.size) K b106 := fun h => Nat.not_lt.2 h.1 lt_x9_1
        have nv_D0 : ¬ Iv (w120.heap.size) K w109.heap.size := fun h => Nat.not_lt.2 h.1 lt_D0_1
        replace o_cb11 := hN
        have hpl := pre_lt hpre
        have htl := told_len s
        have hsh := told_short (pre_mem hpre)
        have hal : acc.length = pre.length := by rw [p1]
        refine W_seq (W_region (L_as (L_nil (thenQ_normal (W_region (L_as (L_nil ?_)))))))
        refine thenQ_normal ⟨hk, ?_⟩
        intro w122 hc123
        replace o_cb11 := obj_ch o_cb11 hc123 nv_cb11
        replace o_x9 := obj_ch o_x9 hc123 nv_x9
        replace o_D0 := obj_ch o_D0 hc123 nv_D0
        replace r_q4 := r_q4.ch hc123 nr_r_q4
        replace r_q102 := r_q102.ch hc123 nr_r_q102
        replace r_x9_0 := r_x9_0.ch hc123 nr_r_x9_0
        replace hb := hc123.below hb hs (fun k h => Nat.le_trans hs_1 h.1)
        replace hs := hb.size
        replace hK := Nat.le_trans hK hc123.size
        replace hk := Kp.refl (w120.heap.size) K w122
        refine W_block (W_region (L_load b106 0 v_x9_0 (by kernel_rfl) (by kernel_rfl) (cell_obj o_x9 rfl) (L_mv (L_mv (L_run (Value.agg #[(.int .i64 x.1), (S x.2)]) (by kernel_rfl) (by kernel_rfl) (L_app el28 w.heap.size v_x9_0 acc (x.1, x.2) hs r_x9_0 (by omega) (by kernel_rfl) rfl rfl (by kernel_rfl) rfl (by kernel_rfl) (by kernel_rfl) ?_))))))
        intro v124 w125 hr126 hg127 how128
        have nr2 := nr_app how128 nr_r_x9_0 hK
        have nap_r_q102 := ap_app r_q102 how128 ap_r_q102_r_x9_0
        replace hb := hb.grown hg127 hs (fun k hk => (World.ownsRow.lt r_x9_0 k hk).1)
        replace hk := hk.ch (Ch.of_grown hg127) hK (fun k e => nr_r_x9_0 k e)
        replace hK := Nat.le_trans hK (hg127.size)
        replace hs := Nat.le_trans hs (hg127.size)
        have n_o_cb11 := obj_grown o_cb11 hg127 (r_x9_0.ne o_cb11 (by simp))
        have n_o_x9 := obj_grown o_x9 hg127 (r_x9_0.ne o_x9 (by simp))
        have n_o_D0 := obj_grown o_D0 hg127 (r_x9_0.ne o_D0 (by simp))
        have n_r_q4 := r_q4.grown hg127 (r_q4.apart r_x9_0 (by kernel_rfl))
        have n_r_q102 := r_q102.grown hg127 ap_r_q102_r_x9_0
        replace o_cb11 := n_o_cb11; clear n_o_cb11
        replace o_x9 := n_o_x9; clear n_o_x9
        replace o_D0 := n_o_D0; clear n_o_D0
        replace r_q4 := n_r_q4; clear n_r_q4
        replace r_q102 := n_r_q102; clear n_r_q102
        have ap_r_q102_r_x9_0 := nap_r_q102; have ap_r_x9_0_r_q102 := ap_comm nap_r_q102
        replace r_x9_0 := hr126
        have nr_r_x9_0 := nr2; clear nr2
        refine L_store b106 0 v124 [v_x9_0] [v124] 28 (by kernel_rfl) (by kernel_rfl) r_x9_0.one (by kernel_rfl) o_x9 (by simp) rfl ?_
        intro w129 hW130
        replace hb := hb.trans (hW130.below g_x9)
        replace hk := hk.ch (Ch.of_wrote hW130) hK (fun k e h => nv_x9 (e ▸ h))
        replace hK := Nat.le_trans hK (Nat.le_of_eq hW130.size.symm)
        replace hs := Nat.le_trans hs (Nat.le_of_eq hW130.size.symm)
        have n_o_cb11 := obj_wrote o_cb11 hW130 (obj_ne o_cb11 o_x9 (by simp))
        have n_o_D0 := obj_wrote o_D0 hW130 (obj_ne o_D0 o_x9 (by simp))
        have n_r_q4 := r_q4.wrote hW130 (r_q4.ne o_x9 (by simp))
        have n_r_q102 := r_q102.wrote hW130 (r_q102.ne o_x9 (by simp))
        have n_r_x9_0 := r_x9_0.wrote hW130 (r_x9_0.ne o_x9 (by simp))
        replace o_cb11 := n_o_cb11; clear n_o_cb11
        replace o_D0 := n_o_D0; clear n_o_D0
        replace r_q4 := n_r_q4; clear n_r_q4
        replace r_q102 := n_r_q102; clear n_r_q102
        replace r_x9_0 := n_r_x9_0; clear n_r_x9_0
        replace o_x9 := hW130.here
        refine L_nil (blkQ_normal ?_)
        refine round_normal hk o_cb11 ⟨(acc ++ [(x.1, x.2)]), v124, o_cb11, o_x9, o_D0, r_q4, nr_r_q4, r_q102, nr_r_q102, r_x9_0, nr_r_x9_0, ap_r_q102_r_x9_0, ap_r_x9_0_r_q102, hb, ?_⟩
        · rw [p1]
      · intro K A hi hsz o_D1
        obtain ⟨acc, v_x9_0, o_cb11, o_x9, o_D0, r_q4, nr_r_q4, r_q102, nr_r_q102, r_x9_0, nr_r_x9_0, ap_r_q102_r_x9_0, ap_r_x9_0_r_q102, hb, p1⟩ := hi
        have ne_cb11_D1 : cb11 ≠ w120.heap.size := Nat.ne_of_lt lt_cb11_1
        have ne_D1_cb11 := ne_cb11_D1.symm
        have ne_x9_D1 : b106 ≠ w120.heap.size := Nat.ne_of_lt lt_x9_1
        have ne_D1_x9 := ne_x9_D1.symm
        have ne_D0_D1 : w109.heap.size ≠ w120.heap.size := Nat.ne_of_lt lt_D0_1
        have ne_D1_D0 := ne_D0_D1.symm
        have hs : w.heap.size ≤ _ := hb.size
        refine blkQ_normal (blkQ_normal (thenQ_normal (W_region (L_addN 1 1 (by omega) (by kernel_rfl) (by kernel_rfl) (L_mv (L_nil (thenQ_round (W_seq (W_region (L_run (.bool false) (by kernel_rfl) (by kernel_rfl) (L_nil (thenQ_normal (W_seq (W_false (by kernel_rfl) (W_exit (thenQ_exit (thenQ_exit (blkQ_exit (thenQ_normal (W_seq (W_region (L_mv (L_mv (L_mv (L_mv (L_call 20 [q102, (S s), q4, (.int .i64 (((pcsR s).length : Nat) : Int))] (by kernel_rfl) (by kernel_rfl) (c_furrowlaw03_sameTold q102 (allF s few) s q4 (pcsR s) (((pcsR s).length : Nat) : Int) _ r_q102.rd r_q4.rd (by first | omega | assumption | exact okPc_R s | (rw [p1]; omega)) (by first | omega | assumption | exact okPc_R s | (rw [p1]; omega)) (by first | omega | assumption | exact okPc_R s | (rw [p1]; omega)) (by first | omega | assumption | exact okPc_R s | (rw [p1]; omega)) (by first | omega | assumption | exact okPc_R s | (rw [p1]; omega)) (by first | omega | assumption | exact okPc_R s | (rw [p1]; omega))) ?_))))))))))))))))))))))))))
        rintro _ w131 ⟨rfl, hB132⟩
        replace hb := hb.trans (hB132.mono hs)
        replace hs := Nat.le_trans hs (hB132.size)
        replace o_cb11 := obj_below o_cb11 hB132
        replace o_x9 := obj_below o_x9 hB132
        replace o_D0 := obj_below o_D0 hB132
        replace o_D1 := obj_below o_D1 hB132
        replace r_q4 := r_q4.below hB132
        replace r_q102 := r_q102.below hB132
        replace r_x9_0 := r_x9_0.below hB132
        refine put_split (decide ((allF s few) = toldR s 0 ((pcsR s).take (((pcsR s).length : Nat) : Int).toNat))) ?_ ?_
        · intro h134
          refine L_mv (L_want (by kernel_rfl) (L_load b106 0 v_x9_0 (by kernel_rfl) (by kernel_rfl) (cell_obj o_x9 rfl) (L_want (by kernel_rfl) (L_mv (L_want (by kernel_rfl) (L_mv (L_want (by kernel_rfl) (L_mv (L_want (by kernel_rfl) (L_len 23 75 (pcsR s).length q4 rfl Tryd.underlying23 (r_q4.rd).len (by kernel_rfl) (L_want (by kernel_rfl) (L_call 20 [v_x9_0, (S s), q4, (.int .i64 (((pcsR s).length : Nat) : Int))] (by kernel_rfl) (by kernel_rfl) (c_furrowlaw03_sameTold v_x9_0 acc s q4 (pcsR s) (((pcsR s).length : Nat) : Int) _ r_x9_0.rd r_q4.rd (by first | omega | assumption | exact okPc_R s | (rw [p1]; omega)) (by first | omega | assumption | exact okPc_R s | (rw [p1]; omega)) (by first | omega | assumption | exact okPc_R s | (rw [p1]; omega)) (by first | omega | assumption | exact okPc_R s | (rw [p1]; omega)) (by first | omega | assumption | exact okPc_R s | (rw [p1]; omega)) (by first | omega | assumption | exact okPc_R s | (rw [p1]; omega))) ?_))))))))))))
          rintro _ w135 ⟨rfl, hB136⟩
          replace hb := hb.trans (hB136.mono hs)
          replace hs := Nat.le_trans hs (hB136.size)
          replace o_cb11 := obj_below o_cb11 hB136
          replace o_x9 := obj_below o_x9 hB136
          replace o_D0 := obj_below o_D0 hB136
          replace o_D1 := obj_below o_D1 hB136
          replace r_q4 := r_q4.below hB136
          replace r_q102 := r_q102.below hB136
          replace r_x9_0 := r_x9_0.below hB136
          refine put_split (decide (acc = toldR s 0 ((pcsR s).take (((pcsR s).length : Nat) : Int).toNat))) ?_ ?_
          · intro h138
            refine L_pickT (by kernel_rfl) (L_as (L_nil (thenQ_normal (W_ret (end_retM (ds := [⟨.collected w120.heap.size, #[]⟩, ⟨.collected w109.heap.size, #[]⟩]) (by kernel_rfl) (Lv_mark o_D1 ?_))))))
            intro w139 hW140
            replace hb := hb.trans (hW140.below hs_1)
            replace hs := Nat.le_trans hs (Nat.le_of_eq hW140.size.symm)
            have n_o_cb11 := obj_wrote o_cb11 hW140 (obj_ne o_cb11 o_D1 (by simp))
            have n_o_x9 := obj_wrote o_x9 hW140 (obj_ne o_x9 o_D1 (by simp))
            have n_o_D0 := obj_wrote o_D0 hW140 ne_D0_D1
            have n_r_q4 := r_q4.wrote hW140 (r_q4.ne o_D1 (by simp))
            have n_r_q102 := r_q102.wrote hW140 (r_q102.ne o_D1 (by simp))
            have n_r_x9_0 := r_x9_0.wrote hW140 (r_x9_0.ne o_D1 (by simp))
            replace o_cb11 := n_o_cb11; clear n_o_cb11
            replace o_x9 := n_o_x9; clear n_o_x9
            replace o_D0 := n_o_D0; clear n_o_D0
            replace r_q4 := n_r_q4; clear n_r_q4
            replace r_q102 := n_r_q102; clear n_r_q102
            replace r_x9_0 := n_r_x9_0; clear n_r_x9_0
            replace o_D1 := hW140.here
            refine Lv_mark o_D0 ?_
            intro w141 hW142
            replace hb := hb.trans (hW142.below hs_0)
            replace hs := Nat.le_trans hs (Nat.le_of_eq hW142.size.symm)
            have n_o_cb11 := obj_wrote o_cb11 hW142 (obj_ne o_cb11 o_D0 (by simp))
            have n_o_x9 := obj_wrote o_x9 hW142 (obj_ne o_x9 o_D0 (by simp))
            have n_o_D1 := obj_wrote o_D1 hW142 (obj_ne o_D1 o_D0 (by simp))
            have n_r_q4 := r_q4.wrote hW142 (r_q4.ne o_D0 (by simp))
            have n_r_q102 := r_q102.wrote hW142 (r_q102.ne o_D0 (by simp))
            have n_r_x9_0 := r_x9_0.wrote hW142 (r_x9_0.ne o_D0 (by simp))
            replace o_cb11 := n_o_cb11; clear n_o_cb11
            replace o_x9 := n_o_x9; clear n_o_x9
            replace o_D1 := n_o_D1; clear n_o_D1
            replace r_q4 := n_r_q4; clear n_r_q4
            replace r_q102 := n_r_q102; clear n_r_q102
            replace r_x9_0 := n_r_x9_0; clear n_r_x9_0
            replace o_D0 := hW142.here
            refine Lv_nil [.tmp 4] [(.bool true)] rfl ⟨by kernel_rfl, trivial⟩ ?_
            have e0 : true = true := by first | rfl | (simp; done)
            exact ⟨congrArg Value.bool e0, hb⟩
          · intro h143
            exfalso; rw [p1, told_all] at h143; simp at h143
        · intro h144
          exfalso; rw [all_none (by omega)] at h144; simp at h144
      · intro K c _ x A _ h; exact h.elim
    · intro K c _ x A _ h; exact h.elim

end Go.Proofs.YtapndpldphflcaaDoor
