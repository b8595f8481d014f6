/- Walks, written by my program walk.py out of the specification lread.py: each theorem says what one function returns and that it leaves memory as it was. -/
import Derived.Test.YtjdcmeoiommglaaDoorPLpcs
import Derived.Test.YtjdcmeoiommglaaDoorWllines
import Derived.Test.YtjdcmeoiommglaaDoorWlscan
import Derived.Test.YtjdcmeoiommglaaDoorFKu
import Derived.Test.YtjdcmeoiommglaaDoorProg
import Derived.Tactics2
namespace Go.Proofs.YtjdcmeoiommglaaDoor
open Go Go.RowKit Go.FK
set_option linter.unusedVariables false
set_option linter.unusedSimpArgs false


set_option maxHeartbeats 4000000 in
set_option maxRecDepth 100000 in
theorem c_lines_Read_ok (f : List UInt8) (s : List UInt8) (w : World) (hs : s.length ≤ 1073741824) (hok : (badL (toldF s)).2 = 0) :
    Calls Tryd.prog 45 #[(S f), (S s)] w (Ret fun v w' => ∃ (l0 : List LineV) (q0 : Value), v = (.tuple #[q0, .nilIface]) ∧ NRow 9 w' w.heap.size 25 5 encLine q0 l0 ∧ l0.map stripL = linesF (toldF s) ∧ Below w.heap.size w w') := by
  refine enterM (args := [(S f), (S s)]) Tryd.func45 rfl (by kernel_rfl : _ = 34) (by kernel_rfl) ?_
  have hb := Below.refl w.heap.size w
  have hs : w.heap.size ≤ w.heap.size := Nat.le_refl _
  refine W_seq (W_region (L_new (fun b => .pointer (some ⟨b, 0, none⟩)) (.cells [(S f)].toArray 9 (0, 0)) (by kernel_rfl) (by kernel_rfl) ?_))
  intro b1 w2 hN3
  have g_x2 : w.heap.size ≤ b1 := by rw [hN3.num]; exact hs
  replace hb := hb.trans (hN3.below.mono hs)
  replace hs := Nat.le_trans hs (hN3.below.size)
  have o_x2 := hN3.here
  refine L_new (fun b => .pointer (some ⟨b, 0, none⟩)) (.cells [(.slice none 0 0)].toArray 87 (0, 0)) (by kernel_rfl) (by kernel_rfl) ?_
  intro b4 w5 hN6
  have ne_x2_x4 : b1 ≠ b4 := by have := (obj_lt o_x2); have := hN6.num; omega
  have ne_x4_x2 := ne_x2_x4.symm
  have g_x4 : w.heap.size ≤ b4 := by rw [hN6.num]; exact hs
  replace hb := hb.trans (hN6.below.mono hs)
  replace hs := Nat.le_trans hs (hN6.below.size)
  replace o_x2 := obj_below o_x2 hN6.below
  have o_x4 := hN6.here
  refine L_new (fun b => .pointer (some ⟨b, 0, none⟩)) (.cells [.nilIface].toArray 55 (0, 0)) (by kernel_rfl) (by kernel_rfl) ?_
  intro b7 w8 hN9
  have ne_x2_x5 : b1 ≠ b7 := by have := (obj_lt o_x2); have := hN9.num; omega
  have ne_x5_x2 := ne_x2_x5.symm
  have ne_x4_x5 : b4 ≠ b7 := by have := (obj_lt o_x4); have := hN9.num; omega
  have ne_x5_x4 := ne_x4_x5.symm
  have g_x5 : w.heap.size ≤ b7 := by rw [hN9.num]; exact hs
  replace hb := hb.trans (hN9.below.mono hs)
  replace hs := Nat.le_trans hs (hN9.below.size)
  replace o_x2 := obj_below o_x2 hN9.below
  replace o_x4 := obj_below o_x4 hN9.below
  have o_x5 := hN9.here
  refine L_nil (thenQ_normal (W_seq (W_region (L_new (fun b => .pointer (some ⟨b, 0, none⟩)) (.cells [(.slice none 0 0)].toArray 87 (0, 0)) (by kernel_rfl) (by kernel_rfl) ?_))))
  intro b10 w11 hN12
  have ne_x2_x6 : b1 ≠ b10 := by have := (obj_lt o_x2); have := hN12.num; omega
  have ne_x6_x2 := ne_x2_x6.symm
  have ne_x4_x6 : b4 ≠ b10 := by have := (obj_lt o_x4); have := hN12.num; omega
  have ne_x6_x4 := ne_x4_x6.symm
  have ne_x5_x6 : b7 ≠ b10 := by have := (obj_lt o_x5); have := hN12.num; omega
  have ne_x6_x5 := ne_x5_x6.symm
  have g_x6 : w.heap.size ≤ b10 := by rw [hN12.num]; exact hs
  replace hb := hb.trans (hN12.below.mono hs)
  replace hs := Nat.le_trans hs (hN12.below.size)
  replace o_x2 := obj_below o_x2 hN12.below
  replace o_x4 := obj_below o_x4 hN12.below
  replace o_x5 := obj_below o_x5 hN12.below
  have o_x6 := hN12.here
  refine L_nil (thenQ_normal (W_seq (W_seq (W_region (L_mv (L_call 58 [(S s)] (by kernel_rfl) (by kernel_rfl) (c_lines_Each s _ ) ?_))))))
  rintro _ w13 ⟨cb16, rfl, o_cb16, g_cb16, hB14⟩
  have ne_x2_cb16 : b1 ≠ cb16 := by have := (obj_lt o_x2); omega
  have ne_cb16_x2 := ne_x2_cb16.symm
  have ne_x4_cb16 : b4 ≠ cb16 := by have := (obj_lt o_x4); omega
  have ne_cb16_x4 := ne_x4_cb16.symm
  have ne_x5_cb16 : b7 ≠ cb16 := by have := (obj_lt o_x5); omega
  have ne_cb16_x5 := ne_x5_cb16.symm
  have ne_x6_cb16 : b10 ≠ cb16 := by have := (obj_lt o_x6); omega
  have ne_cb16_x6 := ne_x6_cb16.symm
  replace g_cb16 := Nat.le_trans hs g_cb16
  replace hb := hb.trans (hB14.mono hs)
  replace hs := Nat.le_trans hs (hB14.size)
  replace o_x2 := obj_below o_x2 hB14
  replace o_x4 := obj_below o_x4 hB14
  replace o_x5 := obj_below o_x5 hB14
  replace o_x6 := obj_below o_x6 hB14
  refine L_nil (thenQ_normal (W_block ?_))
  have lt_x2_0 : b1 < w13.heap.size := obj_lt o_x2
  have lt_x4_0 : b4 < w13.heap.size := obj_lt o_x4
  have lt_x5_0 : b7 < w13.heap.size := obj_lt o_x5
  have lt_x6_0 : b10 < w13.heap.size := obj_lt o_x6
  have lt_cb16_0 : cb16 < w13.heap.size := obj_lt o_cb16
  have hs_0 := hs
  have hb_0 := hb
  refine W_range 67 [(.pointer (some ⟨cb16, 0, none⟩))] (toldF s) (by kernel_rfl) (fun _ _ => rfl) (it_lines_Each_1 cb16 s (by omega)) o_cb16 ((fun D A B h hc hd => obj_ch h hc (fun h => Nat.not_lt.2 (hd _ h) lt_cb16_0))) (by intro x; rfl) (fun K pre A => ∃ (acc : List LineV) (v_x6_0 : Value), (A.heap[b1]? = some (.cells [(S f)].toArray 9 (0, 0))) ∧ (A.heap[b4]? = some (.cells [(.slice none 0 0)].toArray 87 (0, 0))) ∧ (A.heap[b7]? = some (.cells [.nilIface].toArray 55 (0, 0))) ∧ (A.heap[b10]? = some (.cells [v_x6_0].toArray 87 (0, 0))) ∧ (A.heap[cb16]? = some (.cells [(S s)].toArray 9 (0, 0))) ∧ (NRow 9 A w.heap.size 25 5 encLine v_x6_0 acc) ∧ (∀ g, NOwn v_x6_0 acc g → ¬ Iv w13.heap.size K g) ∧ (Below w.heap.size w A) ∧ (acc.map stripL = linesF pre) ∧ (acc.length ≤ pre.length)) (fun K c pre A => False) ?_ ?_ ?_ ?_ ?_ ?_
  · intro A hA
    exact ⟨[], (.slice none 0 0), obj_below o_x2 hA, obj_below o_x4 hA, obj_below o_x5 hA, obj_below o_x6 hA, obj_below o_cb16 hA, NRow.nil _ _ _ _ _ _, nrN_nil _ _, hb.trans (hA.mono hs), by rfl, by exact Nat.le_refl _⟩
  · rintro K pre A B ⟨acc, v_x6_0, o_x2, o_x4, o_x5, o_x6, o_cb16, r_x6_0, nr_r_x6_0, hb, p1, p3⟩ hc
    exact ⟨acc, v_x6_0, obj_ch o_x2 hc (fun h => Nat.not_lt.2 h.1 lt_x2_0), obj_ch o_x4 hc (fun h => Nat.not_lt.2 h.1 lt_x4_0), obj_ch o_x5 hc (fun h => Nat.not_lt.2 h.1 lt_x5_0), obj_ch o_x6 hc (fun h => Nat.not_lt.2 h.1 lt_x6_0), obj_ch o_cb16 hc (fun h => Nat.not_lt.2 h.1 lt_cb16_0), r_x6_0.ch hc nr_r_x6_0, nr_r_x6_0, hc.below hb hb.size (fun k h => Nat.le_trans hs_0 h.1), p1, p3⟩
  · intro K c _ A B h hc; exact h.elim
  · intro l K pre x A hi hN hK0 hK hpre
    obtain ⟨acc, v_x6_0, o_x2, o_x4, o_x5, o_x6, o_cb16, r_x6_0, nr_r_x6_0, hb, p1, p3⟩ := hi
    have hs := hb.size
    have hk := Kp.refl (w13.heap.size) K A
    have nv_x2 : ¬ Iv (w13.heap.size) K b1 := fun h => Nat.not_lt.2 h.1 lt_x2_0
    have nv_x4 : ¬ Iv (w13.heap.size) K b4 := fun h => Nat.not_lt.2 h.1 lt_x4_0
    have nv_x5 : ¬ Iv (w13.heap.size) K b7 := fun h => Nat.not_lt.2 h.1 lt_x5_0
    have nv_x6 : ¬ Iv (w13.heap.size) K b10 := fun h => Nat.not_lt.2 h.1 lt_x6_0
    have nv_cb16 : ¬ Iv (w13.heap.size) K cb16 := fun h => Nat.not_lt.2 h.1 lt_cb16_0
    replace o_cb16 := hN
    have hsh := told_short (pre_mem hpre)
    have hpl := pre_lt hpre
    have htl := told_len s
    refine W_seq (W_region (L_as (L_nil (thenQ_normal (W_region (L_as (L_nil ?_)))))))
    refine thenQ_normal ⟨hk, ?_⟩
    intro w17 hc18
    replace o_x2 := obj_ch o_x2 hc18 nv_x2
    replace o_x4 := obj_ch o_x4 hc18 nv_x4
    replace o_x5 := obj_ch o_x5 hc18 nv_x5
    replace o_x6 := obj_ch o_x6 hc18 nv_x6
    replace o_cb16 := obj_ch o_cb16 hc18 nv_cb16
    replace r_x6_0 := r_x6_0.ch hc18 nr_r_x6_0
    replace hb := hc18.below hb hs (fun k h => Nat.le_trans hs_0 h.1)
    replace hs := hb.size
    replace hK := Nat.le_trans hK hc18.size
    replace hk := Kp.refl (w13.heap.size) K w17
    refine W_block (W_seq (W_region (L_mv (L_mv (L_call 59 [(.int .i64 x.1), (S x.2)] (by kernel_rfl) (by kernel_rfl) (c_lines_Scan x.1 x.2 _ (by omega)) ?_)))))
    rintro _ w20 ⟨q19, rfl, r_q19, hB21⟩
    have nr_r_q19 := nr_row (K0 := w13.heap.size) r_q19 hK
    have nb_o_x2_r_q19 := Row.nb_call r_q19 o_x2
    have nb_o_cb16_r_q19 := Row.nb_call r_q19 o_cb16
    replace r_q19 := r_q19.base hs
    replace hb := hb.trans (hB21.mono hs)
    replace hk := hk.ch (Ch.of_below hB21) hK (fun _ h => h.elim)
    replace hK := Nat.le_trans hK (hB21.size)
    replace hs := Nat.le_trans hs (hB21.size)
    replace o_x2 := obj_below o_x2 hB21
    replace o_x4 := obj_below o_x4 hB21
    replace o_x5 := obj_below o_x5 hB21
    replace o_x6 := obj_below o_x6 hB21
    replace o_cb16 := obj_below o_cb16 hB21
    replace r_x6_0 := r_x6_0.below hB21
    have := scan_err x.1 x.2
    refine L_mv (L_run (Value.agg #[(.int .i64 ((scanF x.1 x.2).1.1)), (.int .u8 ((scanF x.1 x.2).1.2.1)), (S ((scanF x.1 x.2).1.2.2.1)), q19, (S ((scanF x.1 x.2).1.2.2.2.2))]) (by kernel_rfl) (by kernel_rfl) (L_run (.int .i64 ((scanF x.1 x.2).2)) (by kernel_rfl) (by kernel_rfl) (L_new (fun b => .pointer (some ⟨b, 0, none⟩)) (.cells [(.int .i64 0), (.int .u8 0), (S ([] : List UInt8)), (.slice none 0 0), (S ([] : List UInt8))].toArray 25 (0, 0)) (by kernel_rfl) (by kernel_rfl) ?_)))
    intro b23 w24 hN25
    have ne_x2_x9 : b1 ≠ b23 := by have := (obj_lt o_x2); have := hN25.num; omega
    have ne_x9_x2 := ne_x2_x9.symm
    have ne_x4_x9 : b4 ≠ b23 := by have := (obj_lt o_x4); have := hN25.num; omega
    have ne_x9_x4 := ne_x4_x9.symm
    have ne_x5_x9 : b7 ≠ b23 := by have := (obj_lt o_x5); have := hN25.num; omega
    have ne_x9_x5 := ne_x5_x9.symm
    have ne_x6_x9 : b10 ≠ b23 := by have := (obj_lt o_x6); have := hN25.num; omega
    have ne_x9_x6 := ne_x6_x9.symm
    have ne_cb16_x9 : cb16 ≠ b23 := by have := (obj_lt o_cb16); have := hN25.num; omega
    have ne_x9_cb16 := ne_cb16_x9.symm
    have g_x9 : w.heap.size ≤ b23 := by rw [hN25.num]; exact hs
    have nv_x9 : ¬ Iv w13.heap.size K b23 := fun h => by have := h.2; have := hN25.num; omega
    have nb_o_x9_r_x6_0 := r_x6_0.new_ne hN25
    replace hb := hb.trans (hN25.below.mono hs)
    replace hk := hk.ch (Ch.of_below hN25.below) hK (fun _ h => h.elim)
    replace hK := Nat.le_trans hK (hN25.below.size)
    replace hs := Nat.le_trans hs (hN25.below.size)
    replace o_x2 := obj_below o_x2 hN25.below
    replace o_x4 := obj_below o_x4 hN25.below
    replace o_x5 := obj_below o_x5 hN25.below
    replace o_x6 := obj_below o_x6 hN25.below
    replace o_cb16 := obj_below o_cb16 hN25.below
    replace r_x6_0 := r_x6_0.below hN25.below
    replace r_q19 := r_q19.below hN25.below
    have o_x9 := hN25.here
    refine L_storeA b23 0 [(.int .i64 ((scanF x.1 x.2).1.1)), (.int .u8 ((scanF x.1 x.2).1.2.1)), (S ((scanF x.1 x.2).1.2.2.1)), q19, (S ((scanF x.1 x.2).1.2.2.2.2))] [(.int .i64 0), (.int .u8 0), (S ([] : List UInt8)), (.slice none 0 0), (S ([] : List UInt8))] [(.int .i64 ((scanF x.1 x.2).1.1)), (.int .u8 ((scanF x.1 x.2).1.2.1)), (S ((scanF x.1 x.2).1.2.2.1)), q19, (S ((scanF x.1 x.2).1.2.2.2.2))] 25 (by kernel_rfl) (by kernel_rfl) (allc rfl (allc rfl (allc rfl (allc r_q19.one (allc rfl rfl))))) (by kernel_rfl) o_x9 (by kernel_rfl) rfl ?_
    intro w26 hW27
    replace hb := hb.trans (hW27.below g_x9)
    replace hk := hk.ch (Ch.of_wrote hW27) hK (fun k e h => nv_x9 (e ▸ h))
    replace hK := Nat.le_trans hK (Nat.le_of_eq hW27.size.symm)
    replace hs := Nat.le_trans hs (Nat.le_of_eq hW27.size.symm)
    have n_o_x2 := obj_wrote o_x2 hW27 (obj_ne o_x2 o_x9 (by simp))
    have n_o_x4 := obj_wrote o_x4 hW27 (obj_ne o_x4 o_x9 (by simp))
    have n_o_x5 := obj_wrote o_x5 hW27 (obj_ne o_x5 o_x9 (by simp))
    have n_o_x6 := obj_wrote o_x6 hW27 (obj_ne o_x6 o_x9 (by simp))
    have n_o_cb16 := obj_wrote o_cb16 hW27 (obj_ne o_cb16 o_x9 (by simp))
    have n_r_x6_0 := r_x6_0.wrote hW27 nb_o_x9_r_x6_0
    have n_r_q19 := r_q19.wrote hW27 (r_q19.ne o_x9 (by simp))
    replace o_x2 := n_o_x2; clear n_o_x2
    replace o_x4 := n_o_x4; clear n_o_x4
    replace o_x5 := n_o_x5; clear n_o_x5
    replace o_x6 := n_o_x6; clear n_o_x6
    replace o_cb16 := n_o_cb16; clear n_o_cb16
    replace r_x6_0 := n_r_x6_0; clear n_r_x6_0
    replace r_q19 := n_r_q19; clear n_r_q19
    replace o_x9 := hW27.here
    refine L_as (L_nil (thenQ_normal (W_seq (W_seq (W_region (L_mv (L_cmp .i64 ((scanF x.1 x.2).2) 0 ((scanF x.1 x.2).2 ≠ 0) rfl (cmp_ne ((scanF x.1 x.2).2) 0) (by kernel_rfl) (by kernel_rfl) ?_ ?_)))))))
    · intro h28
      replace h28 : (scanF x.1 x.2).2 ≠ 0 := by omega
      exfalso; exact absurd (bad_mem hok hpre) h28
    · intro h29
      replace h29 : (scanF x.1 x.2).2 = 0 := by omega
      refine L_nil (thenQ_normal (W_false (by kernel_rfl) (W_skip (thenQ_normal (W_region (L_load b10 0 v_x6_0 (by kernel_rfl) (by kernel_rfl) (cell_obj o_x6 rfl) (L_loadA b23 0 [(.int .i64 ((scanF x.1 x.2).1.1)), (.int .u8 ((scanF x.1 x.2).1.2.1)), (S ((scanF x.1 x.2).1.2.2.1)), q19, (S ((scanF x.1 x.2).1.2.2.2.2))] (by kernel_rfl) (by kernel_rfl) (by kernel_rfl) (cells_at o_x9 0 (by kernel_rfl)) (L_app el87 w.heap.size v_x6_0 acc ((scanF x.1 x.2).1.1, (scanF x.1 x.2).1.2.1, (scanF x.1 x.2).1.2.2.1, (q19, (scanF x.1 x.2).1.2.2.2.1), (scanF x.1 x.2).1.2.2.2.2) hs r_x6_0.1 (by omega) (by kernel_rfl) rfl (allc rfl (allc rfl (allc rfl (allc r_q19.one (allc rfl rfl))))) (by kernel_rfl) rfl (by kernel_rfl) (by kernel_rfl) ?_))))))))
      intro v30 w31 hr32 hg33 how34
      have nr2 := nrN_push (x := ((scanF x.1 x.2).1.1, (scanF x.1 x.2).1.2.1, (scanF x.1 x.2).1.2.2.1, (q19, (scanF x.1 x.2).1.2.2.2.1), (scanF x.1 x.2).1.2.2.2.2)) nr_r_x6_0 (nr_app how34 (fun g e => nr_r_x6_0 g (.inl e)) hK) nr_r_q19
      have nc_o_x9 := ownb_app how34 (fun e => nb_o_x9_r_x6_0 (.inl e)) (obj_lt o_x9)
      have nc_o_x9 := nbN_push (x := ((scanF x.1 x.2).1.1, (scanF x.1 x.2).1.2.1, (scanF x.1 x.2).1.2.2.1, (q19, (scanF x.1 x.2).1.2.2.2.1), (scanF x.1 x.2).1.2.2.2.2)) nb_o_x9_r_x6_0 nc_o_x9 (r_q19.ne o_x9 (by simp))
      replace hb := hb.grown hg33 hs (fun k hk => (World.ownsRow.lt r_x6_0.1 k hk).1)
      replace hk := hk.ch (Ch.of_grown hg33) hK (fun k e => nr_r_x6_0 k (.inl e))
      replace hK := Nat.le_trans hK (hg33.size)
      replace hs := Nat.le_trans hs (hg33.size)
      have n_o_x2 := obj_grown o_x2 hg33 (r_x6_0.1.ne o_x2 (by simp))
      have n_o_x4 := obj_grown o_x4 hg33 (r_x6_0.1.ne o_x4 (by simp))
      have n_o_x5 := obj_grown o_x5 hg33 (r_x6_0.1.ne o_x5 (by simp))
      have n_o_x6 := obj_grown o_x6 hg33 (r_x6_0.1.ne o_x6 (by simp))
      have n_o_cb16 := obj_grown o_cb16 hg33 (r_x6_0.1.ne o_cb16 (by simp))
      have n_o_x9 := obj_grown o_x9 hg33 (fun e => nb_o_x9_r_x6_0 (.inl e))
      have n_r_q19 := r_q19.grown hg33 (r_q19.apart r_x6_0.1 (by kernel_rfl))
      replace o_x2 := n_o_x2; clear n_o_x2
      replace o_x4 := n_o_x4; clear n_o_x4
      replace o_x5 := n_o_x5; clear n_o_x5
      replace o_x6 := n_o_x6; clear n_o_x6
      replace o_cb16 := n_o_cb16; clear n_o_cb16
      replace o_x9 := n_o_x9; clear n_o_x9
      replace r_q19 := n_r_q19; clear n_r_q19
      have nb_o_x9_r_x6_0 := nc_o_x9
      replace r_x6_0 := NRow.push r_x6_0 hg33 hr32 r_q19 (by kernel_rfl)
      have nr_r_x6_0 := nr2; clear nr2
      refine L_store b10 0 v30 [v_x6_0] [v30] 87 (by kernel_rfl) (by kernel_rfl) r_x6_0.one (by kernel_rfl) o_x6 (by simp) rfl ?_
      intro w35 hW36
      replace hb := hb.trans (hW36.below g_x6)
      replace hk := hk.ch (Ch.of_wrote hW36) hK (fun k e h => nv_x6 (e ▸ h))
      replace hK := Nat.le_trans hK (Nat.le_of_eq hW36.size.symm)
      replace hs := Nat.le_trans hs (Nat.le_of_eq hW36.size.symm)
      have n_o_x2 := obj_wrote o_x2 hW36 (obj_ne o_x2 o_x6 (by simp))
      have n_o_x4 := obj_wrote o_x4 hW36 ne_x4_x6
      have n_o_x5 := obj_wrote o_x5 hW36 (obj_ne o_x5 o_x6 (by simp))
      have n_o_cb16 := obj_wrote o_cb16 hW36 (obj_ne o_cb16 o_x6 (by simp))
      have n_o_x9 := obj_wrote o_x9 hW36 (obj_ne o_x9 o_x6 (by simp))
      have n_r_x6_0 := r_x6_0.wrote hW36 (r_x6_0.ne o_x6 (by simp))
      have n_r_q19 := r_q19.wrote hW36 (r_q19.ne o_x6 (by simp))
      replace o_x2 := n_o_x2; clear n_o_x2
      replace o_x4 := n_o_x4; clear n_o_x4
      replace o_x5 := n_o_x5; clear n_o_x5
      replace o_cb16 := n_o_cb16; clear n_o_cb16
      replace o_x9 := n_o_x9; clear n_o_x9
      replace r_x6_0 := n_r_x6_0; clear n_r_x6_0
      replace r_q19 := n_r_q19; clear n_r_q19
      replace o_x6 := hW36.here
      refine L_nil (blkQ_normal ?_)
      refine round_normal hk o_cb16 ⟨(acc ++ [((scanF x.1 x.2).1.1, (scanF x.1 x.2).1.2.1, (scanF x.1 x.2).1.2.2.1, (q19, (scanF x.1 x.2).1.2.2.2.1), (scanF x.1 x.2).1.2.2.2.2)]), v30, o_x2, o_x4, o_x5, o_x6, o_cb16, r_x6_0, nr_r_x6_0, hb, ?_, ?_⟩
      · exact lines_snoc p1 rfl
      · simp only [List.length_append, List.length_cons, List.length_nil]; omega
  · intro K A hi hsz o_D0
    obtain ⟨acc, v_x6_0, o_x2, o_x4, o_x5, o_x6, o_cb16, r_x6_0, nr_r_x6_0, hb, p1, p3⟩ := hi
    have ne_x2_D0 : b1 ≠ w13.heap.size := Nat.ne_of_lt lt_x2_0
    have ne_D0_x2 := ne_x2_D0.symm
    have ne_x4_D0 : b4 ≠ w13.heap.size := Nat.ne_of_lt lt_x4_0
    have ne_D0_x4 := ne_x4_D0.symm
    have ne_x5_D0 : b7 ≠ w13.heap.size := Nat.ne_of_lt lt_x5_0
    have ne_D0_x5 := ne_x5_D0.symm
    have ne_x6_D0 : b10 ≠ w13.heap.size := Nat.ne_of_lt lt_x6_0
    have ne_D0_x6 := ne_x6_D0.symm
    have ne_cb16_D0 : cb16 ≠ w13.heap.size := Nat.ne_of_lt lt_cb16_0
    have ne_D0_cb16 := ne_cb16_D0.symm
    have hs : w.heap.size ≤ _ := hb.size
    refine blkQ_normal (thenQ_normal (W_seq (W_region (L_load b10 0 v_x6_0 (by kernel_rfl) (by kernel_rfl) (cell_obj o_x6 rfl) (L_store b4 0 v_x6_0 [(.slice none 0 0)] [v_x6_0] 87 (by kernel_rfl) (by kernel_rfl) r_x6_0.one (by kernel_rfl) o_x4 (by simp) rfl ?_)))))
    intro w37 hW38
    replace hb := hb.trans (hW38.below g_x4)
    replace hs := Nat.le_trans hs (Nat.le_of_eq hW38.size.symm)
    have n_o_x2 := obj_wrote o_x2 hW38 (obj_ne o_x2 o_x4 (by simp))
    have n_o_x5 := obj_wrote o_x5 hW38 (obj_ne o_x5 o_x4 (by simp))
    have n_o_x6 := obj_wrote o_x6 hW38 ne_x6_x4
    have n_o_cb16 := obj_wrote o_cb16 hW38 (obj_ne o_cb16 o_x4 (by simp))
    have n_o_D0 := obj_wrote o_D0 hW38 (obj_ne o_D0 o_x4 (by simp))
    have n_r_x6_0 := r_x6_0.wrote hW38 (r_x6_0.ne o_x4 (by simp))
    replace o_x2 := n_o_x2; clear n_o_x2
    replace o_x5 := n_o_x5; clear n_o_x5
    replace o_x6 := n_o_x6; clear n_o_x6
    replace o_cb16 := n_o_cb16; clear n_o_cb16
    replace o_D0 := n_o_D0; clear n_o_D0
    replace r_x6_0 := n_r_x6_0; clear n_r_x6_0
    replace o_x4 := hW38.here
    refine L_store b7 0 .nilIface [.nilIface] [.nilIface] 55 (by kernel_rfl) (by kernel_rfl) rfl (by kernel_rfl) o_x5 (by simp) rfl ?_
    intro w39 hW40
    replace hb := hb.trans (hW40.below g_x5)
    replace hs := Nat.le_trans hs (Nat.le_of_eq hW40.size.symm)
    have n_o_x2 := obj_wrote o_x2 hW40 (obj_ne o_x2 o_x5 (by simp))
    have n_o_x4 := obj_wrote o_x4 hW40 (obj_ne o_x4 o_x5 (by simp))
    have n_o_x6 := obj_wrote o_x6 hW40 (obj_ne o_x6 o_x5 (by simp))
    have n_o_cb16 := obj_wrote o_cb16 hW40 (obj_ne o_cb16 o_x5 (by simp))
    have n_o_D0 := obj_wrote o_D0 hW40 (obj_ne o_D0 o_x5 (by simp))
    have n_r_x6_0 := r_x6_0.wrote hW40 (r_x6_0.ne o_x5 (by simp))
    replace o_x2 := n_o_x2; clear n_o_x2
    replace o_x4 := n_o_x4; clear n_o_x4
    replace o_x6 := n_o_x6; clear n_o_x6
    replace o_cb16 := n_o_cb16; clear n_o_cb16
    replace o_D0 := n_o_D0; clear n_o_D0
    replace r_x6_0 := n_r_x6_0; clear n_r_x6_0
    replace o_x5 := hW40.here
    refine L_nil (thenQ_normal (W_ret (end_retM (ds := [⟨.collected w13.heap.size, #[]⟩]) (by kernel_rfl) (Lv_mark o_D0 ?_))))
    intro w41 hW42
    replace hb := hb.trans (hW42.below hs_0)
    replace hs := Nat.le_trans hs (Nat.le_of_eq hW42.size.symm)
    have n_o_x2 := obj_wrote o_x2 hW42 (obj_ne o_x2 o_D0 (by simp))
    have n_o_x4 := obj_wrote o_x4 hW42 (obj_ne o_x4 o_D0 (by simp))
    have n_o_x5 := obj_wrote o_x5 hW42 (obj_ne o_x5 o_D0 (by simp))
    have n_o_x6 := obj_wrote o_x6 hW42 (obj_ne o_x6 o_D0 (by simp))
    have n_o_cb16 := obj_wrote o_cb16 hW42 (obj_ne o_cb16 o_D0 (by simp))
    have n_r_x6_0 := r_x6_0.wrote hW42 (r_x6_0.ne o_D0 (by simp))
    replace o_x2 := n_o_x2; clear n_o_x2
    replace o_x4 := n_o_x4; clear n_o_x4
    replace o_x5 := n_o_x5; clear n_o_x5
    replace o_x6 := n_o_x6; clear n_o_x6
    replace o_cb16 := n_o_cb16; clear n_o_cb16
    replace r_x6_0 := n_r_x6_0; clear n_r_x6_0
    replace o_D0 := hW42.here
    refine Lv_nil [.cell 4 87, .cell 5 55] [v_x6_0, .nilIface] rfl ⟨⟨⟨b4, 0, none⟩, by kernel_rfl, load_one (by kernel_rfl) (cell_obj o_x4 rfl)⟩, ⟨⟨b7, 0, none⟩, by kernel_rfl, load_one (by kernel_rfl) (cell_obj o_x5 rfl)⟩, trivial⟩ ?_
    exact ⟨acc, v_x6_0, tup2 (rfl) (rfl), r_x6_0, (by assumption), hb⟩
  · intro K c _ x A _ h; exact h.elim

set_option maxHeartbeats 4000000 in
set_option maxRecDepth 100000 in
theorem c_lines_Read_bad (f : List UInt8) (s : List UInt8) (w : World) (hs : s.length ≤ 1073741824) (hbad : (badL (toldF s)).2 ≠ 0) :
    Calls Tryd.prog 45 #[(S f), (S s)] w (Ret fun v w' => ∃ (cb0 : Nat), v = (.tuple #[(.slice none 0 0), (.iface 63 (.pointer (some ⟨cb0, 0, none⟩)))]) ∧ w'.heap[cb0]? = some (.cells [(S f), (.int .i64 ((badL (toldF s)).1)), (.int .i64 ((badL (toldF s)).2))].toArray 67 (0, 0)) ∧ w.heap.size ≤ cb0 ∧ Below w.heap.size w w') := by
  refine enterM (args := [(S f), (S s)]) Tryd.func45 rfl (by kernel_rfl : _ = 34) (by kernel_rfl) ?_
  have hb := Below.refl w.heap.size w
  have hs : w.heap.size ≤ w.heap.size := Nat.le_refl _
  refine W_seq (W_region (L_new (fun b => .pointer (some ⟨b, 0, none⟩)) (.cells [(S f)].toArray 9 (0, 0)) (by kernel_rfl) (by kernel_rfl) ?_))
  intro b1 w2 hN3
  have g_x2 : w.heap.size ≤ b1 := by rw [hN3.num]; exact hs
  replace hb := hb.trans (hN3.below.mono hs)
  replace hs := Nat.le_trans hs (hN3.below.size)
  have o_x2 := hN3.here
  refine L_new (fun b => .pointer (some ⟨b, 0, none⟩)) (.cells [(.slice none 0 0)].toArray 87 (0, 0)) (by kernel_rfl) (by kernel_rfl) ?_
  intro b4 w5 hN6
  have ne_x2_x4 : b1 ≠ b4 := by have := (obj_lt o_x2); have := hN6.num; omega
  have ne_x4_x2 := ne_x2_x4.symm
  have g_x4 : w.heap.size ≤ b4 := by rw [hN6.num]; exact hs
  replace hb := hb.trans (hN6.below.mono hs)
  replace hs := Nat.le_trans hs (hN6.below.size)
  replace o_x2 := obj_below o_x2 hN6.below
  have o_x4 := hN6.here
  refine L_new (fun b => .pointer (some ⟨b, 0, none⟩)) (.cells [.nilIface].toArray 55 (0, 0)) (by kernel_rfl) (by kernel_rfl) ?_
  intro b7 w8 hN9
  have ne_x2_x5 : b1 ≠ b7 := by have := (obj_lt o_x2); have := hN9.num; omega
  have ne_x5_x2 := ne_x2_x5.symm
  have ne_x4_x5 : b4 ≠ b7 := by have := (obj_lt o_x4); have := hN9.num; omega
  have ne_x5_x4 := ne_x4_x5.symm
  have g_x5 : w.heap.size ≤ b7 := by rw [hN9.num]; exact hs
  replace hb := hb.trans (hN9.below.mono hs)
  replace hs := Nat.le_trans hs (hN9.below.size)
  replace o_x2 := obj_below o_x2 hN9.below
  replace o_x4 := obj_below o_x4 hN9.below
  have o_x5 := hN9.here
  refine L_nil (thenQ_normal (W_seq (W_region (L_new (fun b => .pointer (some ⟨b, 0, none⟩)) (.cells [(.slice none 0 0)].toArray 87 (0, 0)) (by kernel_rfl) (by kernel_rfl) ?_))))
  intro b10 w11 hN12
  have ne_x2_x6 : b1 ≠ b10 := by have := (obj_lt o_x2); have := hN12.num; omega
  have ne_x6_x2 := ne_x2_x6.symm
  have ne_x4_x6 : b4 ≠ b10 := by have := (obj_lt o_x4); have := hN12.num; omega
  have ne_x6_x4 := ne_x4_x6.symm
  have ne_x5_x6 : b7 ≠ b10 := by have := (obj_lt o_x5); have := hN12.num; omega
  have ne_x6_x5 := ne_x5_x6.symm
  have g_x6 : w.heap.size ≤ b10 := by rw [hN12.num]; exact hs
  replace hb := hb.trans (hN12.below.mono hs)
  replace hs := Nat.le_trans hs (hN12.below.size)
  replace o_x2 := obj_below o_x2 hN12.below
  replace o_x4 := obj_below o_x4 hN12.below
  replace o_x5 := obj_below o_x5 hN12.below
  have o_x6 := hN12.here
  refine L_nil (thenQ_normal (W_seq (W_seq (W_region (L_mv (L_call 58 [(S s)] (by kernel_rfl) (by kernel_rfl) (c_lines_Each s _ ) ?_))))))
  rintro _ w13 ⟨cb16, rfl, o_cb16, g_cb16, hB14⟩
  have ne_x2_cb16 : b1 ≠ cb16 := by have := (obj_lt o_x2); omega
  have ne_cb16_x2 := ne_x2_cb16.symm
  have ne_x4_cb16 : b4 ≠ cb16 := by have := (obj_lt o_x4); omega
  have ne_cb16_x4 := ne_x4_cb16.symm
  have ne_x5_cb16 : b7 ≠ cb16 := by have := (obj_lt o_x5); omega
  have ne_cb16_x5 := ne_x5_cb16.symm
  have ne_x6_cb16 : b10 ≠ cb16 := by have := (obj_lt o_x6); omega
  have ne_cb16_x6 := ne_x6_cb16.symm
  replace g_cb16 := Nat.le_trans hs g_cb16
  replace hb := hb.trans (hB14.mono hs)
  replace hs := Nat.le_trans hs (hB14.size)
  replace o_x2 := obj_below o_x2 hB14
  replace o_x4 := obj_below o_x4 hB14
  replace o_x5 := obj_below o_x5 hB14
  replace o_x6 := obj_below o_x6 hB14
  refine L_nil (thenQ_normal (W_block ?_))
  have lt_x2_0 : b1 < w13.heap.size := obj_lt o_x2
  have lt_x4_0 : b4 < w13.heap.size := obj_lt o_x4
  have lt_x5_0 : b7 < w13.heap.size := obj_lt o_x5
  have lt_x6_0 : b10 < w13.heap.size := obj_lt o_x6
  have lt_cb16_0 : cb16 < w13.heap.size := obj_lt o_cb16
  have hs_0 := hs
  have hb_0 := hb
  refine W_range 67 [(.pointer (some ⟨cb16, 0, none⟩))] (toldF s) (by kernel_rfl) (fun _ _ => rfl) (it_lines_Each_1 cb16 s (by omega)) o_cb16 ((fun D A B h hc hd => obj_ch h hc (fun h => Nat.not_lt.2 (hd _ h) lt_cb16_0))) (by intro x; rfl) (fun K pre A => ∃ (acc : List LineV) (v_x6_0 : Value), (A.heap[b1]? = some (.cells [(S f)].toArray 9 (0, 0))) ∧ (A.heap[b4]? = some (.cells [(.slice none 0 0)].toArray 87 (0, 0))) ∧ (A.heap[b7]? = some (.cells [.nilIface].toArray 55 (0, 0))) ∧ (A.heap[b10]? = some (.cells [v_x6_0].toArray 87 (0, 0))) ∧ (A.heap[cb16]? = some (.cells [(S s)].toArray 9 (0, 0))) ∧ (NRow 9 A w.heap.size 25 5 encLine v_x6_0 acc) ∧ (∀ g, NOwn v_x6_0 acc g → ¬ Iv w13.heap.size K g) ∧ (Below w.heap.size w A) ∧ ((badL pre).2 = 0) ∧ (acc.length ≤ pre.length)) (fun K c pre A => (∃ (bq : Nat) (no : Int) (e : Int), (c = .ret) ∧ (A.heap[b1]? = some (.cells [(S f)].toArray 9 (0, 0))) ∧ (A.heap[b4]? = some (.cells [(.slice none 0 0)].toArray 87 (0, 0))) ∧ (A.heap[b7]? = some (.cells [(.iface 63 (.pointer (some ⟨bq, 0, none⟩)))].toArray 55 (0, 0))) ∧ (A.heap[cb16]? = some (.cells [(S s)].toArray 9 (0, 0))) ∧ (A.heap[bq]? = some (.cells [(S f), (.int .i64 no), (.int .i64 e)].toArray 67 (0, 0))) ∧ (w.heap.size ≤ bq) ∧ (¬ Iv w13.heap.size K bq) ∧ (Below w.heap.size w A) ∧ (badL pre = (no, e)) ∧ (e ≠ 0))) ?_ ?_ ?_ ?_ ?_ ?_
  · intro A hA
    exact ⟨[], (.slice none 0 0), obj_below o_x2 hA, obj_below o_x4 hA, obj_below o_x5 hA, obj_below o_x6 hA, obj_below o_cb16 hA, NRow.nil _ _ _ _ _ _, nrN_nil _ _, hb.trans (hA.mono hs), by rfl, by exact Nat.le_refl _⟩
  · rintro K pre A B ⟨acc, v_x6_0, o_x2, o_x4, o_x5, o_x6, o_cb16, r_x6_0, nr_r_x6_0, hb, p2, p3⟩ hc
    exact ⟨acc, v_x6_0, obj_ch o_x2 hc (fun h => Nat.not_lt.2 h.1 lt_x2_0), obj_ch o_x4 hc (fun h => Nat.not_lt.2 h.1 lt_x4_0), obj_ch o_x5 hc (fun h => Nat.not_lt.2 h.1 lt_x5_0), obj_ch o_x6 hc (fun h => Nat.not_lt.2 h.1 lt_x6_0), obj_ch o_cb16 hc (fun h => Nat.not_lt.2 h.1 lt_cb16_0), r_x6_0.ch hc nr_r_x6_0, nr_r_x6_0, hc.below hb hb.size (fun k h => Nat.le_trans hs_0 h.1), p2, p3⟩
  · rintro K c pre A B (⟨bq, no, e, hcc, o_x2, o_x4, o_x5, o_cb16, o_N0, g_N0, nv_N0, hb, q1, q2⟩) hc
    exact ⟨bq, no, e, hcc, obj_ch o_x2 hc (fun h => Nat.not_lt.2 h.1 lt_x2_0), obj_ch o_x4 hc (fun h => Nat.not_lt.2 h.1 lt_x4_0), obj_ch o_x5 hc (fun h => Nat.not_lt.2 h.1 lt_x5_0), obj_ch o_cb16 hc (fun h => Nat.not_lt.2 h.1 lt_cb16_0), obj_ch o_N0 hc nv_N0, g_N0, nv_N0, hc.below hb hb.size (fun k h => Nat.le_trans hs_0 h.1), q1, q2⟩
  · intro l K pre x A hi hN hK0 hK hpre
    obtain ⟨acc, v_x6_0, o_x2, o_x4, o_x5, o_x6, o_cb16, r_x6_0, nr_r_x6_0, hb, p2, p3⟩ := hi
    have hs := hb.size
    have hk := Kp.refl (w13.heap.size) K A
    have nv_x2 : ¬ Iv (w13.heap.size) K b1 := fun h => Nat.not_lt.2 h.1 lt_x2_0
    have nv_x4 : ¬ Iv (w13.heap.size) K b4 := fun h => Nat.not_lt.2 h.1 lt_x4_0
    have nv_x5 : ¬ Iv (w13.heap.size) K b7 := fun h => Nat.not_lt.2 h.1 lt_x5_0
    have nv_x6 : ¬ Iv (w13.heap.size) K b10 := fun h => Nat.not_lt.2 h.1 lt_x6_0
    have nv_cb16 : ¬ Iv (w13.heap.size) K cb16 := fun h => Nat.not_lt.2 h.1 lt_cb16_0
    replace o_cb16 := hN
    have hsh := told_short (pre_mem hpre)
    have hpl := pre_lt hpre
    have htl := told_len s
    refine W_seq (W_region (L_as (L_nil (thenQ_normal (W_region (L_as (L_nil ?_)))))))
    refine thenQ_normal ⟨hk, ?_⟩
    intro w17 hc18
    replace o_x2 := obj_ch o_x2 hc18 nv_x2
    replace o_x4 := obj_ch o_x4 hc18 nv_x4
    replace o_x5 := obj_ch o_x5 hc18 nv_x5
    replace o_x6 := obj_ch o_x6 hc18 nv_x6
    replace o_cb16 := obj_ch o_cb16 hc18 nv_cb16
    replace r_x6_0 := r_x6_0.ch hc18 nr_r_x6_0
    replace hb := hc18.below hb hs (fun k h => Nat.le_trans hs_0 h.1)
    replace hs := hb.size
    replace hK := Nat.le_trans hK hc18.size
    replace hk := Kp.refl (w13.heap.size) K w17
    refine W_block (W_seq (W_region (L_mv (L_mv (L_call 59 [(.int .i64 x.1), (S x.2)] (by kernel_rfl) (by kernel_rfl) (c_lines_Scan x.1 x.2 _ (by omega)) ?_)))))
    rintro _ w20 ⟨q19, rfl, r_q19, hB21⟩
    have nr_r_q19 := nr_row (K0 := w13.heap.size) r_q19 hK
    have nb_o_x2_r_q19 := Row.nb_call r_q19 o_x2
    have nb_o_cb16_r_q19 := Row.nb_call r_q19 o_cb16
    replace r_q19 := r_q19.base hs
    replace hb := hb.trans (hB21.mono hs)
    replace hk := hk.ch (Ch.of_below hB21) hK (fun _ h => h.elim)
    replace hK := Nat.le_trans hK (hB21.size)
    replace hs := Nat.le_trans hs (hB21.size)
    replace o_x2 := obj_below o_x2 hB21
    replace o_x4 := obj_below o_x4 hB21
    replace o_x5 := obj_below o_x5 hB21
    replace o_x6 := obj_below o_x6 hB21
    replace o_cb16 := obj_below o_cb16 hB21
    replace r_x6_0 := r_x6_0.below hB21
    have := scan_err x.1 x.2
    refine L_mv (L_run (Value.agg #[(.int .i64 ((scanF x.1 x.2).1.1)), (.int .u8 ((scanF x.1 x.2).1.2.1)), (S ((scanF x.1 x.2).1.2.2.1)), q19, (S ((scanF x.1 x.2).1.2.2.2.2))]) (by kernel_rfl) (by kernel_rfl) (L_run (.int .i64 ((scanF x.1 x.2).2)) (by kernel_rfl) (by kernel_rfl) (L_new (fun b => .pointer (some ⟨b, 0, none⟩)) (.cells [(.int .i64 0), (.int .u8 0), (S ([] : List UInt8)), (.slice none 0 0), (S ([] : List UInt8))].toArray 25 (0, 0)) (by kernel_rfl) (by kernel_rfl) ?_)))
    intro b23 w24 hN25
    have ne_x2_x9 : b1 ≠ b23 := by have := (obj_lt o_x2); have := hN25.num; omega
    have ne_x9_x2 := ne_x2_x9.symm
    have ne_x4_x9 : b4 ≠ b23 := by have := (obj_lt o_x4); have := hN25.num; omega
    have ne_x9_x4 := ne_x4_x9.symm
    have ne_x5_x9 : b7 ≠ b23 := by have := (obj_lt o_x5); have := hN25.num; omega
    have ne_x9_x5 := ne_x5_x9.symm
    have ne_x6_x9 : b10 ≠ b23 := by have := (obj_lt o_x6); have := hN25.num; omega
    have ne_x9_x6 := ne_x6_x9.symm
    have ne_cb16_x9 : cb16 ≠ b23 := by have := (obj_lt o_cb16); have := hN25.num; omega
    have ne_x9_cb16 := ne_cb16_x9.symm
    have g_x9 : w.heap.size ≤ b23 := by rw [hN25.num]; exact hs
    have nv_x9 : ¬ Iv w13.heap.size K b23 := fun h => by have := h.2; have := hN25.num; omega
    have nb_o_x9_r_x6_0 := r_x6_0.new_ne hN25
    replace hb := hb.trans (hN25.below.mono hs)
    replace hk := hk.ch (Ch.of_below hN25.below) hK (fun _ h => h.elim)
    replace hK := Nat.le_trans hK (hN25.below.size)
    replace hs := Nat.le_trans hs (hN25.below.size)
    replace o_x2 := obj_below o_x2 hN25.below
    replace o_x4 := obj_below o_x4 hN25.below
    replace o_x5 := obj_below o_x5 hN25.below
    replace o_x6 := obj_below o_x6 hN25.below
    replace o_cb16 := obj_below o_cb16 hN25.below
    replace r_x6_0 := r_x6_0.below hN25.below
    replace r_q19 := r_q19.below hN25.below
    have o_x9 := hN25.here
    refine L_storeA b23 0 [(.int .i64 ((scanF x.1 x.2).1.1)), (.int .u8 ((scanF x.1 x.2).1.2.1)), (S ((scanF x.1 x.2).1.2.2.1)), q19, (S ((scanF x.1 x.2).1.2.2.2.2))] [(.int .i64 0), (.int .u8 0), (S ([] : List UInt8)), (.slice none 0 0), (S ([] : List UInt8))] [(.int .i64 ((scanF x.1 x.2).1.1)), (.int .u8 ((scanF x.1 x.2).1.2.1)), (S ((scanF x.1 x.2).1.2.2.1)), q19, (S ((scanF x.1 x.2).1.2.2.2.2))] 25 (by kernel_rfl) (by kernel_rfl) (allc rfl (allc rfl (allc rfl (allc r_q19.one (allc rfl rfl))))) (by kernel_rfl) o_x9 (by kernel_rfl) rfl ?_
    intro w26 hW27
    replace hb := hb.trans (hW27.below g_x9)
    replace hk := hk.ch (Ch.of_wrote hW27) hK (fun k e h => nv_x9 (e ▸ h))
    replace hK := Nat.le_trans hK (Nat.le_of_eq hW27.size.symm)
    replace hs := Nat.le_trans hs (Nat.le_of_eq hW27.size.symm)
    have n_o_x2 := obj_wrote o_x2 hW27 (obj_ne o_x2 o_x9 (by simp))
    have n_o_x4 := obj_wrote o_x4 hW27 (obj_ne o_x4 o_x9 (by simp))
    have n_o_x5 := obj_wrote o_x5 hW27 (obj_ne o_x5 o_x9 (by simp))
    have n_o_x6 := obj_wrote o_x6 hW27 (obj_ne o_x6 o_x9 (by simp))
    have n_o_cb16 := obj_wrote o_cb16 hW27 (obj_ne o_cb16 o_x9 (by simp))
    have n_r_x6_0 := r_x6_0.wrote hW27 nb_o_x9_r_x6_0
    have n_r_q19 := r_q19.wrote hW27 (r_q19.ne o_x9 (by simp))
    replace o_x2 := n_o_x2; clear n_o_x2
    replace o_x4 := n_o_x4; clear n_o_x4
    replace o_x5 := n_o_x5; clear n_o_x5
    replace o_x6 := n_o_x6; clear n_o_x6
    replace o_cb16 := n_o_cb16; clear n_o_cb16
    replace r_x6_0 := n_r_x6_0; clear n_r_x6_0
    replace r_q19 := n_r_q19; clear n_r_q19
    replace o_x9 := hW27.here
    refine L_as (L_nil (thenQ_normal (W_seq (W_seq (W_region (L_mv (L_cmp .i64 ((scanF x.1 x.2).2) 0 ((scanF x.1 x.2).2 ≠ 0) rfl (cmp_ne ((scanF x.1 x.2).2) 0) (by kernel_rfl) (by kernel_rfl) ?_ ?_)))))))
    · intro h28
      replace h28 : (scanF x.1 x.2).2 ≠ 0 := by omega
      refine L_nil (thenQ_normal (W_true (by kernel_rfl) (W_seq (W_draws 8 (by kernel_rfl) (by kernel_rfl) (by kernel_rfl) ?_))))
      intro w29 hB30
      replace hb := hb.trans (hB30.mono hs)
      replace hk := hk.ch (Ch.of_below hB30) hK (fun _ h => h.elim)
      replace hK := Nat.le_trans hK (hB30.size)
      replace hs := Nat.le_trans hs (hB30.size)
      replace o_x2 := obj_below o_x2 hB30
      replace o_x4 := obj_below o_x4 hB30
      replace o_x5 := obj_below o_x5 hB30
      replace o_x6 := obj_below o_x6 hB30
      replace o_cb16 := obj_below o_cb16 hB30
      replace o_x9 := obj_below o_x9 hB30
      replace r_x6_0 := r_x6_0.below hB30
      replace r_q19 := r_q19.below hB30
      refine I_take 1 (.int .i64 x.1) rfl (by kernel_rfl) (by kernel_rfl) (by kernel_rfl) (by kernel_rfl) (noPanic_then (noPanic_then (noPanic_blk noPanic_round))) (by kernel_rfl) (fun _ => by kernel_rfl) ?_
      refine I_take 2 (.int .i64 ((scanF x.1 x.2).2)) rfl (by kernel_rfl) (by kernel_rfl) (by kernel_rfl) (by kernel_rfl) (noPanic_then (noPanic_then (noPanic_blk noPanic_round))) (by kernel_rfl) (fun _ => by kernel_rfl) ?_
      refine I_all2 0 6 (by kernel_rfl) ?_ ?_
      · skip
        refine I_op 0 rfl ?_ rfl
        refine L_load b1 0 (S f) (by kernel_rfl) (by kernel_rfl) (cell_obj o_x2 rfl) (L_nil ?_)
        refine ⟨rfl, ?_⟩
        refine I_take 3 (Value.agg #[(S f), (.int .i64 x.1), (.int .i64 ((scanF x.1 x.2).2))]) rfl (by kernel_rfl) (by kernel_rfl) (by kernel_rfl) (by kernel_rfl) (noPanic_then (noPanic_then (noPanic_blk noPanic_round))) (by kernel_rfl) (fun _ => by kernel_rfl) ?_
        refine I_all2 4 6 (by kernel_rfl) ?_ ?_
        · skip
          refine I_op 4 rfl ?_ rfl
          refine L_new (fun b => .pointer (some ⟨b, 0, none⟩)) (.cells [(S f), (.int .i64 x.1), (.int .i64 ((scanF x.1 x.2).2))].toArray 67 (0, 0)) (by kernel_rfl) (by kernel_rfl) ?_
          intro b31 w32 hN33
          have ne_x2_x27 : b1 ≠ b31 := by have := (obj_lt o_x2); have := hN33.num; omega
          have ne_x27_x2 := ne_x2_x27.symm
          have ne_x4_x27 : b4 ≠ b31 := by have := (obj_lt o_x4); have := hN33.num; omega
          have ne_x27_x4 := ne_x4_x27.symm
          have ne_x5_x27 : b7 ≠ b31 := by have := (obj_lt o_x5); have := hN33.num; omega
          have ne_x27_x5 := ne_x5_x27.symm
          have ne_x6_x27 : b10 ≠ b31 := by have := (obj_lt o_x6); have := hN33.num; omega
          have ne_x27_x6 := ne_x6_x27.symm
          have ne_cb16_x27 : cb16 ≠ b31 := by have := (obj_lt o_cb16); have := hN33.num; omega
          have ne_x27_cb16 := ne_cb16_x27.symm
          have ne_x9_x27 : b23 ≠ b31 := by have := (obj_lt o_x9); have := hN33.num; omega
          have ne_x27_x9 := ne_x9_x27.symm
          have g_x27 : w.heap.size ≤ b31 := by rw [hN33.num]; exact hs
          have nv_x27 : ¬ Iv w13.heap.size K b31 := fun h => by have := h.2; have := hN33.num; omega
          replace hb := hb.trans (hN33.below.mono hs)
          replace hk := hk.ch (Ch.of_below hN33.below) hK (fun _ h => h.elim)
          replace hK := Nat.le_trans hK (hN33.below.size)
          replace hs := Nat.le_trans hs (hN33.below.size)
          replace o_x2 := obj_below o_x2 hN33.below
          replace o_x4 := obj_below o_x4 hN33.below
          replace o_x5 := obj_below o_x5 hN33.below
          replace o_x6 := obj_below o_x6 hN33.below
          replace o_cb16 := obj_below o_cb16 hN33.below
          replace o_x9 := obj_below o_x9 hN33.below
          replace r_x6_0 := r_x6_0.below hN33.below
          replace r_q19 := r_q19.below hN33.below
          have o_x27 := hN33.here
          refine L_nil ?_
          refine ⟨rfl, ?_⟩
          refine I_take 5 (.iface 63 (.pointer (some ⟨b31, 0, none⟩))) rfl (by kernel_rfl) (by kernel_rfl) (by kernel_rfl) (by kernel_rfl) (noPanic_then (noPanic_then (noPanic_blk noPanic_round))) (by kernel_rfl) (fun _ => by kernel_rfl) ?_
          refine I_all1 6 (by kernel_rfl) ?_
          refine I_op 6 rfl ?_ rfl
          refine L_store b4 0 (.slice none 0 0) [(.slice none 0 0)] [(.slice none 0 0)] 87 (by kernel_rfl) (by kernel_rfl) rfl (by kernel_rfl) o_x4 (by simp) rfl ?_
          intro w34 hW35
          replace hb := hb.trans (hW35.below g_x4)
          replace hk := hk.ch (Ch.of_wrote hW35) hK (fun k e h => nv_x4 (e ▸ h))
          replace hK := Nat.le_trans hK (Nat.le_of_eq hW35.size.symm)
          replace hs := Nat.le_trans hs (Nat.le_of_eq hW35.size.symm)
          have n_o_x2 := obj_wrote o_x2 hW35 (obj_ne o_x2 o_x4 (by simp))
          have n_o_x5 := obj_wrote o_x5 hW35 (obj_ne o_x5 o_x4 (by simp))
          have n_o_x6 := obj_wrote o_x6 hW35 ne_x6_x4
          have n_o_cb16 := obj_wrote o_cb16 hW35 (obj_ne o_cb16 o_x4 (by simp))
          have n_o_x9 := obj_wrote o_x9 hW35 (obj_ne o_x9 o_x4 (by simp))
          have n_o_x27 := obj_wrote o_x27 hW35 (obj_ne o_x27 o_x4 (by simp))
          have n_r_x6_0 := r_x6_0.wrote hW35 (r_x6_0.ne o_x4 (by simp))
          have n_r_q19 := r_q19.wrote hW35 (r_q19.ne o_x4 (by simp))
          replace o_x2 := n_o_x2; clear n_o_x2
          replace o_x5 := n_o_x5; clear n_o_x5
          replace o_x6 := n_o_x6; clear n_o_x6
          replace o_cb16 := n_o_cb16; clear n_o_cb16
          replace o_x9 := n_o_x9; clear n_o_x9
          replace o_x27 := n_o_x27; clear n_o_x27
          replace r_x6_0 := n_r_x6_0; clear n_r_x6_0
          replace r_q19 := n_r_q19; clear n_r_q19
          replace o_x4 := hW35.here
          refine L_nil ?_
          refine ⟨rfl, ?_⟩
          refine I_all1 7 (by kernel_rfl) ?_
          refine I_op 7 rfl ?_ rfl
          refine L_store b7 0 (.iface 63 (.pointer (some ⟨b31, 0, none⟩))) [.nilIface] [(.iface 63 (.pointer (some ⟨b31, 0, none⟩)))] 55 (by kernel_rfl) (by kernel_rfl) rfl (by kernel_rfl) o_x5 (by simp) rfl ?_
          intro w36 hW37
          replace hb := hb.trans (hW37.below g_x5)
          replace hk := hk.ch (Ch.of_wrote hW37) hK (fun k e h => nv_x5 (e ▸ h))
          replace hK := Nat.le_trans hK (Nat.le_of_eq hW37.size.symm)
          replace hs := Nat.le_trans hs (Nat.le_of_eq hW37.size.symm)
          have n_o_x2 := obj_wrote o_x2 hW37 (obj_ne o_x2 o_x5 (by simp))
          have n_o_x4 := obj_wrote o_x4 hW37 (obj_ne o_x4 o_x5 (by simp))
          have n_o_x6 := obj_wrote o_x6 hW37 (obj_ne o_x6 o_x5 (by simp))
          have n_o_cb16 := obj_wrote o_cb16 hW37 (obj_ne o_cb16 o_x5 (by simp))
          have n_o_x9 := obj_wrote o_x9 hW37 (obj_ne o_x9 o_x5 (by simp))
          have n_o_x27 := obj_wrote o_x27 hW37 (obj_ne o_x27 o_x5 (by simp))
          have n_r_x6_0 := r_x6_0.wrote hW37 (r_x6_0.ne o_x5 (by simp))
          have n_r_q19 := r_q19.wrote hW37 (r_q19.ne o_x5 (by simp))
          replace o_x2 := n_o_x2; clear n_o_x2
          replace o_x4 := n_o_x4; clear n_o_x4
          replace o_x6 := n_o_x6; clear n_o_x6
          replace o_cb16 := n_o_cb16; clear n_o_cb16
          replace o_x9 := n_o_x9; clear n_o_x9
          replace o_x27 := n_o_x27; clear n_o_x27
          replace r_x6_0 := n_r_x6_0; clear n_r_x6_0
          replace r_q19 := n_r_q19; clear n_r_q19
          replace o_x5 := hW37.here
          refine L_nil ?_
          refine ⟨rfl, ?_⟩
          refine I_done (by kernel_rfl) ?_
          refine thenQ_normal (W_ret (thenQ_ret (blkQ_ret ?_)))
          refine round_ret hk (⟨b31, x.1, ((scanF x.1 x.2).2), rfl, o_x2, o_x4, o_x5, o_cb16, o_x27, g_x27, nv_x27, hb, ?_, ?_⟩)
          · exact bad_snoc p2 (by assumption)
          · assumption
        · skip
          refine I_op 6 rfl ?_ rfl
          refine L_store b4 0 (.slice none 0 0) [(.slice none 0 0)] [(.slice none 0 0)] 87 (by kernel_rfl) (by kernel_rfl) rfl (by kernel_rfl) o_x4 (by simp) rfl ?_
          intro w38 hW39
          replace hb := hb.trans (hW39.below g_x4)
          replace hk := hk.ch (Ch.of_wrote hW39) hK (fun k e h => nv_x4 (e ▸ h))
          replace hK := Nat.le_trans hK (Nat.le_of_eq hW39.size.symm)
          replace hs := Nat.le_trans hs (Nat.le_of_eq hW39.size.symm)
          have n_o_x2 := obj_wrote o_x2 hW39 (obj_ne o_x2 o_x4 (by simp))
          have n_o_x5 := obj_wrote o_x5 hW39 (obj_ne o_x5 o_x4 (by simp))
          have n_o_x6 := obj_wrote o_x6 hW39 ne_x6_x4
          have n_o_cb16 := obj_wrote o_cb16 hW39 (obj_ne o_cb16 o_x4 (by simp))
          have n_o_x9 := obj_wrote o_x9 hW39 (obj_ne o_x9 o_x4 (by simp))
          have n_r_x6_0 := r_x6_0.wrote hW39 (r_x6_0.ne o_x4 (by simp))
          have n_r_q19 := r_q19.wrote hW39 (r_q19.ne o_x4 (by simp))
          replace o_x2 := n_o_x2; clear n_o_x2
          replace o_x5 := n_o_x5; clear n_o_x5
          replace o_x6 := n_o_x6; clear n_o_x6
          replace o_cb16 := n_o_cb16; clear n_o_cb16
          replace o_x9 := n_o_x9; clear n_o_x9
          replace r_x6_0 := n_r_x6_0; clear n_r_x6_0
          replace r_q19 := n_r_q19; clear n_r_q19
          replace o_x4 := hW39.here
          refine L_nil ?_
          refine ⟨rfl, ?_⟩
          refine I_all1 4 (by kernel_rfl) ?_
          refine I_op 4 rfl ?_ rfl
          refine L_new (fun b => .pointer (some ⟨b, 0, none⟩)) (.cells [(S f), (.int .i64 x.1), (.int .i64 ((scanF x.1 x.2).2))].toArray 67 (0, 0)) (by kernel_rfl) (by kernel_rfl) ?_
          intro b40 w41 hN42
          have ne_x2_x27 : b1 ≠ b40 := by have := (obj_lt o_x2); have := hN42.num; omega
          have ne_x27_x2 := ne_x2_x27.symm
          have ne_x4_x27 : b4 ≠ b40 := by have := (obj_lt o_x4); have := hN42.num; omega
          have ne_x27_x4 := ne_x4_x27.symm
          have ne_x5_x27 : b7 ≠ b40 := by have := (obj_lt o_x5); have := hN42.num; omega
          have ne_x27_x5 := ne_x5_x27.symm
          have ne_x6_x27 : b10 ≠ b40 := by have := (obj_lt o_x6); have := hN42.num; omega
          have ne_x27_x6 := ne_x6_x27.symm
          have ne_cb16_x27 : cb16 ≠ b40 := by have := (obj_lt o_cb16); have := hN42.num; omega
          have ne_x27_cb16 := ne_cb16_x27.symm
          have ne_x9_x27 : b23 ≠ b40 := by have := (obj_lt o_x9); have := hN42.num; omega
          have ne_x27_x9 := ne_x9_x27.symm
          have g_x27 : w.heap.size ≤ b40 := by rw [hN42.num]; exact hs
          have nv_x27 : ¬ Iv w13.heap.size K b40 := fun h => by have := h.2; have := hN42.num; omega
          replace hb := hb.trans (hN42.below.mono hs)
          replace hk := hk.ch (Ch.of_below hN42.below) hK (fun _ h => h.elim)
          replace hK := Nat.le_trans hK (hN42.below.size)
          replace hs := Nat.le_trans hs (hN42.below.size)
          replace o_x2 := obj_below o_x2 hN42.below
          replace o_x4 := obj_below o_x4 hN42.below
          replace o_x5 := obj_below o_x5 hN42.below
          replace o_x6 := obj_below o_x6 hN42.below
          replace o_cb16 := obj_below o_cb16 hN42.below
          replace o_x9 := obj_below o_x9 hN42.below
          replace r_x6_0 := r_x6_0.below hN42.below
          replace r_q19 := r_q19.below hN42.below
          have o_x27 := hN42.here
          refine L_nil ?_
          refine ⟨rfl, ?_⟩
          refine I_take 5 (.iface 63 (.pointer (some ⟨b40, 0, none⟩))) rfl (by kernel_rfl) (by kernel_rfl) (by kernel_rfl) (by kernel_rfl) (noPanic_then (noPanic_then (noPanic_blk noPanic_round))) (by kernel_rfl) (fun _ => by kernel_rfl) ?_
          refine I_all1 7 (by kernel_rfl) ?_
          refine I_op 7 rfl ?_ rfl
          refine L_store b7 0 (.iface 63 (.pointer (some ⟨b40, 0, none⟩))) [.nilIface] [(.iface 63 (.pointer (some ⟨b40, 0, none⟩)))] 55 (by kernel_rfl) (by kernel_rfl) rfl (by kernel_rfl) o_x5 (by simp) rfl ?_
          intro w43 hW44
          replace hb := hb.trans (hW44.below g_x5)
          replace hk := hk.ch (Ch.of_wrote hW44) hK (fun k e h => nv_x5 (e ▸ h))
          replace hK := Nat.le_trans hK (Nat.le_of_eq hW44.size.symm)
          replace hs := Nat.le_trans hs (Nat.le_of_eq hW44.size.symm)
          have n_o_x2 := obj_wrote o_x2 hW44 (obj_ne o_x2 o_x5 (by simp))
          have n_o_x4 := obj_wrote o_x4 hW44 (obj_ne o_x4 o_x5 (by simp))
          have n_o_x6 := obj_wrote o_x6 hW44 (obj_ne o_x6 o_x5 (by simp))
          have n_o_cb16 := obj_wrote o_cb16 hW44 (obj_ne o_cb16 o_x5 (by simp))
          have n_o_x9 := obj_wrote o_x9 hW44 (obj_ne o_x9 o_x5 (by simp))
          have n_o_x27 := obj_wrote o_x27 hW44 (obj_ne o_x27 o_x5 (by simp))
          have n_r_x6_0 := r_x6_0.wrote hW44 (r_x6_0.ne o_x5 (by simp))
          have n_r_q19 := r_q19.wrote hW44 (r_q19.ne o_x5 (by simp))
          replace o_x2 := n_o_x2; clear n_o_x2
          replace o_x4 := n_o_x4; clear n_o_x4
          replace o_x6 := n_o_x6; clear n_o_x6
          replace o_cb16 := n_o_cb16; clear n_o_cb16
          replace o_x9 := n_o_x9; clear n_o_x9
          replace o_x27 := n_o_x27; clear n_o_x27
          replace r_x6_0 := n_r_x6_0; clear n_r_x6_0
          replace r_q19 := n_r_q19; clear n_r_q19
          replace o_x5 := hW44.here
          refine L_nil ?_
          refine ⟨rfl, ?_⟩
          refine I_done (by kernel_rfl) ?_
          refine thenQ_normal (W_ret (thenQ_ret (blkQ_ret ?_)))
          refine round_ret hk (⟨b40, x.1, ((scanF x.1 x.2).2), rfl, o_x2, o_x4, o_x5, o_cb16, o_x27, g_x27, nv_x27, hb, ?_, ?_⟩)
          · exact bad_snoc p2 (by assumption)
          · assumption
      · skip
        refine I_op 6 rfl ?_ rfl
        refine L_store b4 0 (.slice none 0 0) [(.slice none 0 0)] [(.slice none 0 0)] 87 (by kernel_rfl) (by kernel_rfl) rfl (by kernel_rfl) o_x4 (by simp) rfl ?_
        intro w45 hW46
        replace hb := hb.trans (hW46.below g_x4)
        replace hk := hk.ch (Ch.of_wrote hW46) hK (fun k e h => nv_x4 (e ▸ h))
        replace hK := Nat.le_trans hK (Nat.le_of_eq hW46.size.symm)
        replace hs := Nat.le_trans hs (Nat.le_of_eq hW46.size.symm)
        have n_o_x2 := obj_wrote o_x2 hW46 (obj_ne o_x2 o_x4 (by simp))
        have n_o_x5 := obj_wrote o_x5 hW46 (obj_ne o_x5 o_x4 (by simp))
        have n_o_x6 := obj_wrote o_x6 hW46 ne_x6_x4
        have n_o_cb16 := obj_wrote o_cb16 hW46 (obj_ne o_cb16 o_x4 (by simp))
        have n_o_x9 := obj_wrote o_x9 hW46 (obj_ne o_x9 o_x4 (by simp))
        have n_r_x6_0 := r_x6_0.wrote hW46 (r_x6_0.ne o_x4 (by simp))
        have n_r_q19 := r_q19.wrote hW46 (r_q19.ne o_x4 (by simp))
        replace o_x2 := n_o_x2; clear n_o_x2
        replace o_x5 := n_o_x5; clear n_o_x5
        replace o_x6 := n_o_x6; clear n_o_x6
        replace o_cb16 := n_o_cb16; clear n_o_cb16
        replace o_x9 := n_o_x9; clear n_o_x9
        replace r_x6_0 := n_r_x6_0; clear n_r_x6_0
        replace r_q19 := n_r_q19; clear n_r_q19
        replace o_x4 := hW46.here
        refine L_nil ?_
        refine ⟨rfl, ?_⟩
        refine I_all1 0 (by kernel_rfl) ?_
        refine I_op 0 rfl ?_ rfl
        refine L_load b1 0 (S f) (by kernel_rfl) (by kernel_rfl) (cell_obj o_x2 rfl) (L_nil ?_)
        refine ⟨rfl, ?_⟩
        refine I_take 3 (Value.agg #[(S f), (.int .i64 x.1), (.int .i64 ((scanF x.1 x.2).2))]) rfl (by kernel_rfl) (by kernel_rfl) (by kernel_rfl) (by kernel_rfl) (noPanic_then (noPanic_then (noPanic_blk noPanic_round))) (by kernel_rfl) (fun _ => by kernel_rfl) ?_
        refine I_all1 4 (by kernel_rfl) ?_
        refine I_op 4 rfl ?_ rfl
        refine L_new (fun b => .pointer (some ⟨b, 0, none⟩)) (.cells [(S f), (.int .i64 x.1), (.int .i64 ((scanF x.1 x.2).2))].toArray 67 (0, 0)) (by kernel_rfl) (by kernel_rfl) ?_
        intro b47 w48 hN49
        have ne_x2_x27 : b1 ≠ b47 := by have := (obj_lt o_x2); have := hN49.num; omega
        have ne_x27_x2 := ne_x2_x27.symm
        have ne_x4_x27 : b4 ≠ b47 := by have := (obj_lt o_x4); have := hN49.num; omega
        have ne_x27_x4 := ne_x4_x27.symm
        have ne_x5_x27 : b7 ≠ b47 := by have := (obj_lt o_x5); have := hN49.num; omega
        have ne_x27_x5 := ne_x5_x27.symm
        have ne_x6_x27 : b10 ≠ b47 := by have := (obj_lt o_x6); have := hN49.num; omega
        have ne_x27_x6 := ne_x6_x27.symm
        have ne_cb16_x27 : cb16 ≠ b47 := by have := (obj_lt o_cb16); have := hN49.num; omega
        have ne_x27_cb16 := ne_cb16_x27.symm
        have ne_x9_x27 : b23 ≠ b47 := by have := (obj_lt o_x9); have := hN49.num; omega
        have ne_x27_x9 := ne_x9_x27.symm
        have g_x27 : w.heap.size ≤ b47 := by rw [hN49.num]; exact hs
        have nv_x27 : ¬ Iv w13.heap.size K b47 := fun h => by have := h.2; have := hN49.num; omega
        replace hb := hb.trans (hN49.below.mono hs)
        replace hk := hk.ch (Ch.of_below hN49.below) hK (fun _ h => h.elim)
        replace hK := Nat.le_trans hK (hN49.below.size)
        replace hs := Nat.le_trans hs (hN49.below.size)
        replace o_x2 := obj_below o_x2 hN49.below
        replace o_x4 := obj_below o_x4 hN49.below
        replace o_x5 := obj_below o_x5 hN49.below
        replace o_x6 := obj_below o_x6 hN49.below
        replace o_cb16 := obj_below o_cb16 hN49.below
        replace o_x9 := obj_below o_x9 hN49.below
        replace r_x6_0 := r_x6_0.below hN49.below
        replace r_q19 := r_q19.below hN49.below
        have o_x27 := hN49.here
        refine L_nil ?_
        refine ⟨rfl, ?_⟩
        refine I_take 5 (.iface 63 (.pointer (some ⟨b47, 0, none⟩))) rfl (by kernel_rfl) (by kernel_rfl) (by kernel_rfl) (by kernel_rfl) (noPanic_then (noPanic_then (noPanic_blk noPanic_round))) (by kernel_rfl) (fun _ => by kernel_rfl) ?_
        refine I_all1 7 (by kernel_rfl) ?_
        refine I_op 7 rfl ?_ rfl
        refine L_store b7 0 (.iface 63 (.pointer (some ⟨b47, 0, none⟩))) [.nilIface] [(.iface 63 (.pointer (some ⟨b47, 0, none⟩)))] 55 (by kernel_rfl) (by kernel_rfl) rfl (by kernel_rfl) o_x5 (by simp) rfl ?_
        intro w50 hW51
        replace hb := hb.trans (hW51.below g_x5)
        replace hk := hk.ch (Ch.of_wrote hW51) hK (fun k e h => nv_x5 (e ▸ h))
        replace hK := Nat.le_trans hK (Nat.le_of_eq hW51.size.symm)
        replace hs := Nat.le_trans hs (Nat.le_of_eq hW51.size.symm)
        have n_o_x2 := obj_wrote o_x2 hW51 (obj_ne o_x2 o_x5 (by simp))
        have n_o_x4 := obj_wrote o_x4 hW51 (obj_ne o_x4 o_x5 (by simp))
        have n_o_x6 := obj_wrote o_x6 hW51 (obj_ne o_x6 o_x5 (by simp))
        have n_o_cb16 := obj_wrote o_cb16 hW51 (obj_ne o_cb16 o_x5 (by simp))
        have n_o_x9 := obj_wrote o_x9 hW51 (obj_ne o_x9 o_x5 (by simp))
        have n_o_x27 := obj_wrote o_x27 hW51 (obj_ne o_x27 o_x5 (by simp))
        have n_r_x6_0 := r_x6_0.wrote hW51 (r_x6_0.ne o_x5 (by simp))
        have n_r_q19 := r_q19.wrote hW51 (r_q19.ne o_x5 (by simp))
        replace o_x2 := n_o_x2; clear n_o_x2
        replace o_x4 := n_o_x4; clear n_o_x4
        replace o_x6 := n_o_x6; clear n_o_x6
        replace o_cb16 := n_o_cb16; clear n_o_cb16
        replace o_x9 := n_o_x9; clear n_o_x9
        replace o_x27 := n_o_x27; clear n_o_x27
        replace r_x6_0 := n_r_x6_0; clear n_r_x6_0
        replace r_q19 := n_r_q19; clear n_r_q19
        replace o_x5 := hW51.here
        refine L_nil ?_
        refine ⟨rfl, ?_⟩
        refine I_done (by kernel_rfl) ?_
        refine thenQ_normal (W_ret (thenQ_ret (blkQ_ret ?_)))
        refine round_ret hk (⟨b47, x.1, ((scanF x.1 x.2).2), rfl, o_x2, o_x4, o_x5, o_cb16, o_x27, g_x27, nv_x27, hb, ?_, ?_⟩)
        · exact bad_snoc p2 (by assumption)
        · assumption
    · intro h52
      replace h52 : (scanF x.1 x.2).2 = 0 := by omega
      refine L_nil (thenQ_normal (W_false (by kernel_rfl) (W_skip (thenQ_normal (W_region (L_load b10 0 v_x6_0 (by kernel_rfl) (by kernel_rfl) (cell_obj o_x6 rfl) (L_loadA b23 0 [(.int .i64 ((scanF x.1 x.2).1.1)), (.int .u8 ((scanF x.1 x.2).1.2.1)), (S ((scanF x.1 x.2).1.2.2.1)), q19, (S ((scanF x.1 x.2).1.2.2.2.2))] (by kernel_rfl) (by kernel_rfl) (by kernel_rfl) (cells_at o_x9 0 (by kernel_rfl)) (L_app el87 w.heap.size v_x6_0 acc ((scanF x.1 x.2).1.1, (scanF x.1 x.2).1.2.1, (scanF x.1 x.2).1.2.2.1, (q19, (scanF x.1 x.2).1.2.2.2.1), (scanF x.1 x.2).1.2.2.2.2) hs r_x6_0.1 (by omega) (by kernel_rfl) rfl (allc rfl (allc rfl (allc rfl (allc r_q19.one (allc rfl rfl))))) (by kernel_rfl) rfl (by kernel_rfl) (by kernel_rfl) ?_))))))))
      intro v53 w54 hr55 hg56 how57
      have nr2 := nrN_push (x := ((scanF x.1 x.2).1.1, (scanF x.1 x.2).1.2.1, (scanF x.1 x.2).1.2.2.1, (q19, (scanF x.1 x.2).1.2.2.2.1), (scanF x.1 x.2).1.2.2.2.2)) nr_r_x6_0 (nr_app how57 (fun g e => nr_r_x6_0 g (.inl e)) hK) nr_r_q19
      have nc_o_x9 := ownb_app how57 (fun e => nb_o_x9_r_x6_0 (.inl e)) (obj_lt o_x9)
      have nc_o_x9 := nbN_push (x := ((scanF x.1 x.2).1.1, (scanF x.1 x.2).1.2.1, (scanF x.1 x.2).1.2.2.1, (q19, (scanF x.1 x.2).1.2.2.2.1), (scanF x.1 x.2).1.2.2.2.2)) nb_o_x9_r_x6_0 nc_o_x9 (r_q19.ne o_x9 (by simp))
      replace hb := hb.grown hg56 hs (fun k hk => (World.ownsRow.lt r_x6_0.1 k hk).1)
      replace hk := hk.ch (Ch.of_grown hg56) hK (fun k e => nr_r_x6_0 k (.inl e))
      replace hK := Nat.le_trans hK (hg56.size)
      replace hs := Nat.le_trans hs (hg56.size)
      have n_o_x2 := obj_grown o_x2 hg56 (r_x6_0.1.ne o_x2 (by simp))
      have n_o_x4 := obj_grown o_x4 hg56 (r_x6_0.1.ne o_x4 (by simp))
      have n_o_x5 := obj_grown o_x5 hg56 (r_x6_0.1.ne o_x5 (by simp))
      have n_o_x6 := obj_grown o_x6 hg56 (r_x6_0.1.ne o_x6 (by simp))
      have n_o_cb16 := obj_grown o_cb16 hg56 (r_x6_0.1.ne o_cb16 (by simp))
      have n_o_x9 := obj_grown o_x9 hg56 (fun e => nb_o_x9_r_x6_0 (.inl e))
      have n_r_q19 := r_q19.grown hg56 (r_q19.apart r_x6_0.1 (by kernel_rfl))
      replace o_x2 := n_o_x2; clear n_o_x2
      replace o_x4 := n_o_x4; clear n_o_x4
      replace o_x5 := n_o_x5; clear n_o_x5
      replace o_x6 := n_o_x6; clear n_o_x6
      replace o_cb16 := n_o_cb16; clear n_o_cb16
      replace o_x9 := n_o_x9; clear n_o_x9
      replace r_q19 := n_r_q19; clear n_r_q19
      have nb_o_x9_r_x6_0 := nc_o_x9
      replace r_x6_0 := NRow.push r_x6_0 hg56 hr55 r_q19 (by kernel_rfl)
      have nr_r_x6_0 := nr2; clear nr2
      refine L_store b10 0 v53 [v_x6_0] [v53] 87 (by kernel_rfl) (by kernel_rfl) r_x6_0.one (by kernel_rfl) o_x6 (by simp) rfl ?_
      intro w58 hW59
      replace hb := hb.trans (hW59.below g_x6)
      replace hk := hk.ch (Ch.of_wrote hW59) hK (fun k e h => nv_x6 (e ▸ h))
      replace hK := Nat.le_trans hK (Nat.le_of_eq hW59.size.symm)
      replace hs := Nat.le_trans hs (Nat.le_of_eq hW59.size.symm)
      have n_o_x2 := obj_wrote o_x2 hW59 (obj_ne o_x2 o_x6 (by simp))
      have n_o_x4 := obj_wrote o_x4 hW59 ne_x4_x6
      have n_o_x5 := obj_wrote o_x5 hW59 (obj_ne o_x5 o_x6 (by simp))
      have n_o_cb16 := obj_wrote o_cb16 hW59 (obj_ne o_cb16 o_x6 (by simp))
      have n_o_x9 := obj_wrote o_x9 hW59 (obj_ne o_x9 o_x6 (by simp))
      have n_r_x6_0 := r_x6_0.wrote hW59 (r_x6_0.ne o_x6 (by simp))
      have n_r_q19 := r_q19.wrote hW59 (r_q19.ne o_x6 (by simp))
      replace o_x2 := n_o_x2; clear n_o_x2
      replace o_x4 := n_o_x4; clear n_o_x4
      replace o_x5 := n_o_x5; clear n_o_x5
      replace o_cb16 := n_o_cb16; clear n_o_cb16
      replace o_x9 := n_o_x9; clear n_o_x9
      replace r_x6_0 := n_r_x6_0; clear n_r_x6_0
      replace r_q19 := n_r_q19; clear n_r_q19
      replace o_x6 := hW59.here
      refine L_nil (blkQ_normal ?_)
      refine round_normal hk o_cb16 ⟨(acc ++ [((scanF x.1 x.2).1.1, (scanF x.1 x.2).1.2.1, (scanF x.1 x.2).1.2.2.1, (q19, (scanF x.1 x.2).1.2.2.2.1), (scanF x.1 x.2).1.2.2.2.2)]), v53, o_x2, o_x4, o_x5, o_x6, o_cb16, r_x6_0, nr_r_x6_0, hb, ?_, ?_⟩
      · exact bad_snoc_ok p2 (by assumption)
      · simp only [List.length_append, List.length_cons, List.length_nil]; omega
  · intro K A hi hsz o_D0
    obtain ⟨acc, v_x6_0, o_x2, o_x4, o_x5, o_x6, o_cb16, r_x6_0, nr_r_x6_0, hb, p2, p3⟩ := hi
    have ne_x2_D0 : b1 ≠ w13.heap.size := Nat.ne_of_lt lt_x2_0
    have ne_D0_x2 := ne_x2_D0.symm
    have ne_x4_D0 : b4 ≠ w13.heap.size := Nat.ne_of_lt lt_x4_0
    have ne_D0_x4 := ne_x4_D0.symm
    have ne_x5_D0 : b7 ≠ w13.heap.size := Nat.ne_of_lt lt_x5_0
    have ne_D0_x5 := ne_x5_D0.symm
    have ne_x6_D0 : b10 ≠ w13.heap.size := Nat.ne_of_lt lt_x6_0
    have ne_D0_x6 := ne_x6_D0.symm
    have ne_cb16_D0 : cb16 ≠ w13.heap.size := Nat.ne_of_lt lt_cb16_0
    have ne_D0_cb16 := ne_cb16_D0.symm
    have hs : w.heap.size ≤ _ := hb.size
    exfalso; exact hbad p2
  · intro K c pre0 x0 A hpre hx hsz o_D0
    obtain ⟨pre, hpreq⟩ : ∃ pre, pre = pre0 ++ [x0] := ⟨_, rfl⟩
    rw [← hpreq] at hpre; try rw [← hpreq] at hx
    rcases hx with ⟨bq, no, e, rfl, o_x2, o_x4, o_x5, o_cb16, o_N0, g_N0, nv_N0, hb, q1, q2⟩
    have ne_x2_D0 : b1 ≠ w13.heap.size := Nat.ne_of_lt lt_x2_0
    have ne_D0_x2 := ne_x2_D0.symm
    have ne_x4_D0 : b4 ≠ w13.heap.size := Nat.ne_of_lt lt_x4_0
    have ne_D0_x4 := ne_x4_D0.symm
    have ne_x5_D0 : b7 ≠ w13.heap.size := Nat.ne_of_lt lt_x5_0
    have ne_D0_x5 := ne_x5_D0.symm
    have ne_cb16_D0 : cb16 ≠ w13.heap.size := Nat.ne_of_lt lt_cb16_0
    have ne_D0_cb16 := ne_cb16_D0.symm
    have hs : w.heap.size ≤ _ := hb.size
    have hbp := bad_pre hpre (by rw [q1]; exact q2)
    rw [q1] at hbp
    obtain rfl : no = (badL (toldF s)).1 := by rw [hbp]
    obtain rfl : e = (badL (toldF s)).2 := by rw [hbp]
    refine W_ret (blkQ_ret (thenQ_ret (end_retM (ds := [⟨.collected w13.heap.size, #[]⟩]) (by kernel_rfl) (Lv_mark o_D0 ?_))))
    intro w60 hW61
    replace hb := hb.trans (hW61.below hs_0)
    replace hs := Nat.le_trans hs (Nat.le_of_eq hW61.size.symm)
    have n_o_x2 := obj_wrote o_x2 hW61 (obj_ne o_x2 o_D0 (by simp))
    have n_o_x4 := obj_wrote o_x4 hW61 (obj_ne o_x4 o_D0 (by simp))
    have n_o_x5 := obj_wrote o_x5 hW61 (obj_ne o_x5 o_D0 (by simp))
    have n_o_cb16 := obj_wrote o_cb16 hW61 (obj_ne o_cb16 o_D0 (by simp))
    have n_o_N0 := obj_wrote o_N0 hW61 (obj_ne o_N0 o_D0 (by simp))
    replace o_x2 := n_o_x2; clear n_o_x2
    replace o_x4 := n_o_x4; clear n_o_x4
    replace o_x5 := n_o_x5; clear n_o_x5
    replace o_cb16 := n_o_cb16; clear n_o_cb16
    replace o_N0 := n_o_N0; clear n_o_N0
    replace o_D0 := hW61.here
    refine Lv_nil [.cell 4 87, .cell 5 55] [(.slice none 0 0), (.iface 63 (.pointer (some ⟨bq, 0, none⟩)))] rfl ⟨⟨⟨b4, 0, none⟩, by kernel_rfl, load_one (by kernel_rfl) (cell_obj o_x4 rfl)⟩, ⟨⟨b7, 0, none⟩, by kernel_rfl, load_one (by kernel_rfl) (cell_obj o_x5 rfl)⟩, trivial⟩ ?_
    exact ⟨bq, tup2 (rfl) (rfl), o_N0, g_N0, hb⟩


end Go.Proofs.YtjdcmeoiommglaaDoor
