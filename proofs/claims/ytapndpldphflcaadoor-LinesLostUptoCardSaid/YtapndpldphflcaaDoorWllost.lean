/- Walks, written by my program walk.py out of the specification llost.py: each theorem says what one function returns and that it leaves memory as it was. -/
import Derived.Test.YtapndpldphflcaaDoorPLlost
import Derived.Test.YtapndpldphflcaaDoorWllines
import Derived.Test.YtapndpldphflcaaDoorWlscan
import Derived.Test.YtapndpldphflcaaDoorWlread
import Derived.Test.YtapndpldphflcaaDoorWlawake
import Derived.Test.YtapndpldphflcaaDoorWlref
import Derived.Test.YtapndpldphflcaaDoorFKu
import Derived.Test.YtapndpldphflcaaDoorProg
import Derived.Tactics2
namespace Go.Proofs.YtapndpldphflcaaDoor
open Go Go.RowKit Go.FK
set_option linter.unusedVariables false


set_option maxHeartbeats 4000000 in
set_option maxRecDepth 100000 in
theorem c_furrowlaw03_LinesLost (s : List UInt8) (w : World) (hty : w.cell? ⟨0, 0, none⟩ = some (.iface 116 (.agg #[.pointer (some ⟨4, 56, none⟩)]))) (hs : s.length ≤ 1048576) :
    Calls Tryd.prog 8 #[(S s)] w (Ret fun v w' => v = (.bool true) ∧ Below w.heap.size w w') := by
  refine enterM (args := [(S s)]) Tryd.func8 rfl (by kernel_rfl : _ = 89) (by kernel_rfl) ?_
  have hb := Below.refl w.heap.size w
  have hs : w.heap.size ≤ w.heap.size := Nat.le_refl _
  have hml := mark_len s
  refine W_seq (W_region (L_new (fun b => .pointer (some ⟨b, 0, none⟩)) (.cells [(S s)].toArray 9 (0, 0)) (by kernel_rfl) (by kernel_rfl) ?_))
  intro b1 w2 hN3
  have g_x1 : w.heap.size ≤ b1 := by rw [hN3.num]; exact hs
  replace hb := hb.trans (hN3.below.mono hs)
  replace hs := Nat.le_trans hs (hN3.below.size)
  have o_x1 := hN3.here
  refine L_new (fun b => .pointer (some ⟨b, 0, none⟩)) (.cells [(.bool false)].toArray 4 (0, 0)) (by kernel_rfl) (by kernel_rfl) ?_
  intro b4 w5 hN6
  have ne_x1_x2 : b1 ≠ b4 := by have := obj_lt o_x1; have := hN6.num; omega
  have ne_x2_x1 := ne_x1_x2.symm
  have g_x2 : w.heap.size ≤ b4 := by rw [hN6.num]; exact hs
  replace hb := hb.trans (hN6.below.mono hs)
  replace hs := Nat.le_trans hs (hN6.below.size)
  replace o_x1 := obj_below o_x1 hN6.below
  have o_x2 := hN6.here
  refine L_nil (thenQ_normal (W_seq (W_seq (W_region (L_call 16 [] (by kernel_rfl) (by kernel_rfl) (c_furrowlaw03_awake  _ (gcell_below hty hb)) ?_)))))
  rintro _ w7 ⟨rfl, hB8⟩
  replace hb := hb.trans (hB8.mono hs)
  replace hs := Nat.le_trans hs (hB8.size)
  replace o_x1 := obj_below o_x1 hB8
  replace o_x2 := obj_below o_x2 hB8
  refine L_not true (by kernel_rfl) (L_nil (thenQ_normal (W_false (by kernel_rfl) (W_skip (thenQ_normal (W_seq (W_region (L_load b1 0 (S s) (by kernel_rfl) (by kernel_rfl) (cell_obj o_x1 rfl) (L_call 34 [(S s)] (by kernel_rfl) (by kernel_rfl) (c_furrowref03_Marked s _ (by first | omega | (rcases k4 with ⟨e, e1, _⟩ | ⟨e0, l0, n0⟩ | ⟨e0, f0, l0, n0⟩ <;> omega))) ?_)))))))))
  rintro _ w10 ⟨rfl, hB11⟩
  replace hb := hb.trans (hB11.mono hs)
  replace hs := Nat.le_trans hs (hB11.size)
  replace o_x1 := obj_below o_x1 hB11
  replace o_x2 := obj_below o_x2 hB11
  have := mark_len s
  refine L_new (fun b => .pointer (some ⟨b, 0, none⟩)) (.cells [(.int .i64 0)].toArray 3 (0, 0)) (by kernel_rfl) (by kernel_rfl) ?_
  intro b13 w14 hN15
  have ne_x1_x3 : b1 ≠ b13 := by have := obj_lt o_x1; have := hN15.num; omega
  have ne_x3_x1 := ne_x1_x3.symm
  have ne_x2_x3 : b4 ≠ b13 := by have := obj_lt o_x2; have := hN15.num; omega
  have ne_x3_x2 := ne_x2_x3.symm
  have g_x3 : w.heap.size ≤ b13 := by rw [hN15.num]; exact hs
  replace hb := hb.trans (hN15.below.mono hs)
  replace hs := Nat.le_trans hs (hN15.below.size)
  replace o_x1 := obj_below o_x1 hN15.below
  replace o_x2 := obj_below o_x2 hN15.below
  have o_x3 := hN15.here
  refine L_store b13 0 (.int .i64 ((markN s : Nat) : Int)) [(.int .i64 0)] [(.int .i64 ((markN s : Nat) : Int))] 3 (by kernel_rfl) (by kernel_rfl) rfl (by kernel_rfl) o_x3 (by simp) rfl ?_
  intro w16 hW17
  replace hb := hb.trans (hW17.below g_x3)
  replace hs := Nat.le_trans hs (Nat.le_of_eq hW17.size.symm)
  have n_o_x1 := obj_wrote o_x1 hW17 (obj_ne o_x1 o_x3 (by simp))
  have n_o_x2 := obj_wrote o_x2 hW17 (obj_ne o_x2 o_x3 (by simp))
  replace o_x1 := n_o_x1; clear n_o_x1
  replace o_x2 := n_o_x2; clear n_o_x2
  replace o_x3 := hW17.here
  refine L_nil (thenQ_normal (W_seq (W_region (L_new (fun b => .pointer (some ⟨b, 0, none⟩)) (.cells [(.int .i64 0)].toArray 3 (0, 0)) (by kernel_rfl) (by kernel_rfl) ?_))))
  intro b18 w19 hN20
  have ne_x1_x4 : b1 ≠ b18 := by have := obj_lt o_x1; have := hN20.num; omega
  have ne_x4_x1 := ne_x1_x4.symm
  have ne_x2_x4 : b4 ≠ b18 := by have := obj_lt o_x2; have := hN20.num; omega
  have ne_x4_x2 := ne_x2_x4.symm
  have ne_x3_x4 : b13 ≠ b18 := by have := obj_lt o_x3; have := hN20.num; omega
  have ne_x4_x3 := ne_x3_x4.symm
  have g_x4 : w.heap.size ≤ b18 := by rw [hN20.num]; exact hs
  replace hb := hb.trans (hN20.below.mono hs)
  replace hs := Nat.le_trans hs (hN20.below.size)
  replace o_x1 := obj_below o_x1 hN20.below
  replace o_x2 := obj_below o_x2 hN20.below
  replace o_x3 := obj_below o_x3 hN20.below
  have o_x4 := hN20.here
  refine L_store b18 0 (.int .i64 0) [(.int .i64 0)] [(.int .i64 0)] 3 (by kernel_rfl) (by kernel_rfl) rfl (by kernel_rfl) o_x4 (by simp) rfl ?_
  intro w21 hW22
  replace hb := hb.trans (hW22.below g_x4)
  replace hs := Nat.le_trans hs (Nat.le_of_eq hW22.size.symm)
  have n_o_x1 := obj_wrote o_x1 hW22 (obj_ne o_x1 o_x4 (by simp))
  have n_o_x2 := obj_wrote o_x2 hW22 (obj_ne o_x2 o_x4 (by simp))
  have n_o_x3 := obj_wrote o_x3 hW22 ne_x3_x4
  replace o_x1 := n_o_x1; clear n_o_x1
  replace o_x2 := n_o_x2; clear n_o_x2
  replace o_x3 := n_o_x3; clear n_o_x3
  replace o_x4 := hW22.here
  refine L_nil (thenQ_normal (W_seq (W_seq (W_region (L_load b1 0 (S s) (by kernel_rfl) (by kernel_rfl) (cell_obj o_x1 rfl) (L_call 18 [(S s)] (by kernel_rfl) (by kernel_rfl) (c_lines_Each s _ ) ?_))))))
  rintro _ w23 ⟨cb26, rfl, o_cb26, g_cb26, hB24⟩
  have ne_x1_cb26 : b1 ≠ cb26 := by have := obj_lt o_x1; omega
  have ne_cb26_x1 := ne_x1_cb26.symm
  have ne_x2_cb26 : b4 ≠ cb26 := by have := obj_lt o_x2; omega
  have ne_cb26_x2 := ne_x2_cb26.symm
  have ne_x3_cb26 : b13 ≠ cb26 := by have := obj_lt o_x3; omega
  have ne_cb26_x3 := ne_x3_cb26.symm
  have ne_x4_cb26 : b18 ≠ cb26 := by have := obj_lt o_x4; omega
  have ne_cb26_x4 := ne_x4_cb26.symm
  replace g_cb26 := Nat.le_trans hs g_cb26
  replace hb := hb.trans (hB24.mono hs)
  replace hs := Nat.le_trans hs (hB24.size)
  replace o_x1 := obj_below o_x1 hB24
  replace o_x2 := obj_below o_x2 hB24
  replace o_x3 := obj_below o_x3 hB24
  replace o_x4 := obj_below o_x4 hB24
  refine L_run (.bool false) (by kernel_rfl) (by kernel_rfl) (L_nil (thenQ_normal (W_false (by kernel_rfl) (W_skip (thenQ_normal (W_seq (W_seq (W_region (L_load b1 0 (S s) (by kernel_rfl) (by kernel_rfl) (cell_obj o_x1 rfl) (L_call 18 [(S s)] (by kernel_rfl) (by kernel_rfl) (c_lines_Each s _ ) ?_))))))))))
  rintro _ w27 ⟨cb30, rfl, o_cb30, g_cb30, hB28⟩
  have ne_x1_cb30 : b1 ≠ cb30 := by have := obj_lt o_x1; omega
  have ne_cb30_x1 := ne_x1_cb30.symm
  have ne_x2_cb30 : b4 ≠ cb30 := by have := obj_lt o_x2; omega
  have ne_cb30_x2 := ne_x2_cb30.symm
  have ne_x3_cb30 : b13 ≠ cb30 := by have := obj_lt o_x3; omega
  have ne_cb30_x3 := ne_x3_cb30.symm
  have ne_x4_cb30 : b18 ≠ cb30 := by have := obj_lt o_x4; omega
  have ne_cb30_x4 := ne_x4_cb30.symm
  have ne_cb26_cb30 : cb26 ≠ cb30 := by have := obj_lt o_cb26; omega
  have ne_cb30_cb26 := ne_cb26_cb30.symm
  replace g_cb30 := Nat.le_trans hs g_cb30
  replace hb := hb.trans (hB28.mono hs)
  replace hs := Nat.le_trans hs (hB28.size)
  replace o_x1 := obj_below o_x1 hB28
  replace o_x2 := obj_below o_x2 hB28
  replace o_x3 := obj_below o_x3 hB28
  replace o_x4 := obj_below o_x4 hB28
  replace o_cb26 := obj_below o_cb26 hB28
  refine L_nil (thenQ_normal (W_block ?_))
  have lt_x1_0 : b1 < w27.heap.size := obj_lt o_x1
  have lt_x2_0 : b4 < w27.heap.size := obj_lt o_x2
  have lt_x3_0 : b13 < w27.heap.size := obj_lt o_x3
  have lt_x4_0 : b18 < w27.heap.size := obj_lt o_x4
  have lt_cb26_0 : cb26 < w27.heap.size := obj_lt o_cb26
  have lt_cb30_0 : cb30 < w27.heap.size := obj_lt o_cb30
  have hs_0 := hs
  have hb_0 := hb
  refine W_range 43 [(.pointer (some ⟨cb30, 0, none⟩))] (toldF s) (by kernel_rfl) (fun _ _ => rfl) (it_lines_Each_1 cb30 s (by first | omega | (rcases k4 with ⟨e, e1, _⟩ | ⟨e0, l0, n0⟩ | ⟨e0, f0, l0, n0⟩ <;> omega))) o_cb30 ((fun D A B h hc hd => obj_ch h hc (fun h => Nat.not_lt.2 (hd _ h) lt_cb30_0))) (by intro x; rfl) (fun K pre A => ∃ (at_ : Nat) (n : Nat), (A.heap[b1]? = some (.cells [(S s)].toArray 9 (0, 0))) ∧ (A.heap[b4]? = some (.cells [(.bool false)].toArray 4 (0, 0))) ∧ (A.heap[b13]? = some (.cells [(.int .i64 ((at_ : Nat) : Int))].toArray 3 (0, 0))) ∧ (A.heap[b18]? = some (.cells [(.int .i64 ((n : Nat) : Int))].toArray 3 (0, 0))) ∧ (A.heap[cb26]? = some (.cells [(S s)].toArray 9 (0, 0))) ∧ (A.heap[cb30]? = some (.cells [(S s)].toArray 9 (0, 0))) ∧ (Below w.heap.size w A) ∧ (n = pre.length) ∧ (at_ = posF s pre.length)) (fun K c pre A => False) ?_ ?_ ?_ ?_ ?_ ?_
  · intro A hA
    exact ⟨(markN s), 0, obj_below o_x1 hA, obj_below o_x2 hA, obj_below o_x3 hA, obj_below o_x4 hA, obj_below o_cb26 hA, obj_below o_cb30 hA, hb.trans (hA.mono hs), by rfl, by exact (pos_zero s).symm⟩
  · rintro K pre A B ⟨at_, n, o_x1, o_x2, o_x3, o_x4, o_cb26, o_cb30, hb, p1, p2⟩ hc
    exact ⟨at_, n, obj_ch o_x1 hc (fun h => Nat.not_lt.2 h.1 lt_x1_0), obj_ch o_x2 hc (fun h => Nat.not_lt.2 h.1 lt_x2_0), obj_ch o_x3 hc (fun h => Nat.not_lt.2 h.1 lt_x3_0), obj_ch o_x4 hc (fun h => Nat.not_lt.2 h.1 lt_x4_0), obj_ch o_cb26 hc (fun h => Nat.not_lt.2 h.1 lt_cb26_0), obj_ch o_cb30 hc (fun h => Nat.not_lt.2 h.1 lt_cb30_0), hc.below hb hb.size (fun k h => Nat.le_trans hs_0 h.1), p1, p2⟩
  · intro K c _ A B h hc; exact h.elim
  · intro l K pre x A hi hN hK0 hK hpre
    obtain ⟨at_, n, o_x1, o_x2, o_x3, o_x4, o_cb26, o_cb30, hb, p1, p2⟩ := hi
    have hs := hb.size
    have hk := Kp.refl (w27.heap.size) K A
    have nv_x1 : ¬ Iv (w27.heap.size) K b1 := fun h => Nat.not_lt.2 h.1 lt_x1_0
    have nv_x2 : ¬ Iv (w27.heap.size) K b4 := fun h => Nat.not_lt.2 h.1 lt_x2_0
    have nv_x3 : ¬ Iv (w27.heap.size) K b13 := fun h => Nat.not_lt.2 h.1 lt_x3_0
    have nv_x4 : ¬ Iv (w27.heap.size) K b18 := fun h => Nat.not_lt.2 h.1 lt_x4_0
    have nv_cb26 : ¬ Iv (w27.heap.size) K cb26 := fun h => Nat.not_lt.2 h.1 lt_cb26_0
    have nv_cb30 : ¬ Iv (w27.heap.size) K cb30 := fun h => Nat.not_lt.2 h.1 lt_cb30_0
    replace o_cb30 := hN
    have hpl := pre_lt hpre
    have htl := told_len s
    have hlo := lost_atD hpre
    rw [← p2] at hlo
    obtain ⟨k1, k2, k3, k4⟩ := hlo
    have hple := pos_le s pre.length
    rw [← p2] at hple
    refine W_seq (W_region (L_as (L_nil (thenQ_normal (W_region (L_as (L_nil ?_)))))))
    refine thenQ_normal ⟨hk, ?_⟩
    intro w31 hc32
    replace o_x1 := obj_ch o_x1 hc32 nv_x1
    replace o_x2 := obj_ch o_x2 hc32 nv_x2
    replace o_x3 := obj_ch o_x3 hc32 nv_x3
    replace o_x4 := obj_ch o_x4 hc32 nv_x4
    replace o_cb26 := obj_ch o_cb26 hc32 nv_cb26
    replace o_cb30 := obj_ch o_cb30 hc32 nv_cb30
    replace hb := hc32.below hb hs (fun k h => Nat.le_trans hs_0 h.1)
    replace hs := hb.size
    replace hK := Nat.le_trans hK hc32.size
    replace hk := Kp.refl (w27.heap.size) K w31
    refine W_block (W_seq (W_region (L_load b18 0 (.int .i64 ((n : Nat) : Int)) (by kernel_rfl) (by kernel_rfl) (cell_obj o_x4 rfl) (L_addN n 1 (by omega) (by kernel_rfl) (by kernel_rfl) (L_store b18 0 (.int .i64 (((n + 1) : Nat) : Int)) [(.int .i64 ((n : Nat) : Int))] [(.int .i64 (((n + 1) : Nat) : Int))] 3 (by kernel_rfl) (by kernel_rfl) rfl (by kernel_rfl) o_x4 (by simp) rfl ?_)))))
    intro w33 hW34
    replace hb := hb.trans (hW34.below g_x4)
    replace hk := hk.ch (Ch.of_wrote hW34) hK (fun k e h => nv_x4 (e ▸ h))
    replace hK := Nat.le_trans hK (Nat.le_of_eq hW34.size.symm)
    replace hs := Nat.le_trans hs (Nat.le_of_eq hW34.size.symm)
    have n_o_x1 := obj_wrote o_x1 hW34 (obj_ne o_x1 o_x4 (by simp))
    have n_o_x2 := obj_wrote o_x2 hW34 (obj_ne o_x2 o_x4 (by simp))
    have n_o_x3 := obj_wrote o_x3 hW34 ne_x3_x4
    have n_o_cb26 := obj_wrote o_cb26 hW34 (obj_ne o_cb26 o_x4 (by simp))
    have n_o_cb30 := obj_wrote o_cb30 hW34 (obj_ne o_cb30 o_x4 (by simp))
    replace o_x1 := n_o_x1; clear n_o_x1
    replace o_x2 := n_o_x2; clear n_o_x2
    replace o_x3 := n_o_x3; clear n_o_x3
    replace o_cb26 := n_o_cb26; clear n_o_cb26
    replace o_cb30 := n_o_cb30; clear n_o_cb30
    replace o_x4 := hW34.here
    refine L_nil (thenQ_normal (W_seq (W_seq (W_region (L_mv (L_load b18 0 (.int .i64 (((n + 1) : Nat) : Int)) (by kernel_rfl) (by kernel_rfl) (cell_obj o_x4 rfl) (L_cmp .i64 x.1 (((n + 1) : Nat) : Int) (x.1 ≠ (((n + 1) : Nat) : Int)) rfl (cmp_ne x.1 (((n + 1) : Nat) : Int)) (by kernel_rfl) (by kernel_rfl) ?_ ?_)))))))
    · intro h35
      replace h35 : x.1 ≠ (((n + 1) : Nat) : Int) := by omega
      refine L_mv (L_skip (by kernel_rfl) (L_skip (by kernel_rfl) (L_skip (by kernel_rfl) (L_skip (by kernel_rfl) (L_skip (by kernel_rfl) (L_skip (by kernel_rfl) (L_skip (by kernel_rfl) (L_pickT (by kernel_rfl) (L_mv (L_skip (by kernel_rfl) (L_skip (by kernel_rfl) (L_skip (by kernel_rfl) (L_skip (by kernel_rfl) (L_skip (by kernel_rfl) (L_skip (by kernel_rfl) (L_skip (by kernel_rfl) (L_skip (by kernel_rfl) (L_skip (by kernel_rfl) (L_pickT (by kernel_rfl) (L_nil (thenQ_normal (W_true (by kernel_rfl) (W_seq (W_region (L_store b4 0 (.bool false) [(.bool false)] [(.bool false)] 4 (by kernel_rfl) (by kernel_rfl) rfl (by kernel_rfl) o_x2 (by simp) rfl ?_)))))))))))))))))))))))))
      intro w36 hW37
      replace hb := hb.trans (hW37.below g_x2)
      replace hk := hk.ch (Ch.of_wrote hW37) hK (fun k e h => nv_x2 (e ▸ h))
      replace hK := Nat.le_trans hK (Nat.le_of_eq hW37.size.symm)
      replace hs := Nat.le_trans hs (Nat.le_of_eq hW37.size.symm)
      have n_o_x1 := obj_wrote o_x1 hW37 (obj_ne o_x1 o_x2 (by simp))
      have n_o_x3 := obj_wrote o_x3 hW37 (obj_ne o_x3 o_x2 (by simp))
      have n_o_x4 := obj_wrote o_x4 hW37 (obj_ne o_x4 o_x2 (by simp))
      have n_o_cb26 := obj_wrote o_cb26 hW37 (obj_ne o_cb26 o_x2 (by simp))
      have n_o_cb30 := obj_wrote o_cb30 hW37 (obj_ne o_cb30 o_x2 (by simp))
      replace o_x1 := n_o_x1; clear n_o_x1
      replace o_x3 := n_o_x3; clear n_o_x3
      replace o_x4 := n_o_x4; clear n_o_x4
      replace o_cb26 := n_o_cb26; clear n_o_cb26
      replace o_cb30 := n_o_cb30; clear n_o_cb30
      replace o_x2 := hW37.here
      refine L_nil (thenQ_normal (W_ret (thenQ_ret (blkQ_ret ?_))))
      exfalso; first | omega | exact absurd k3 (by assumption) | (have hx0 : x.2.length = 0 := (by rw [(by assumption : x.2 = [])]; rfl); omega) | (rcases k4 with ⟨e, e1, _⟩ | ⟨e0, l0, n0⟩ | ⟨e0, f0, l0, n0⟩ <;> omega)
    · intro h38
      replace h38 : x.1 = (((n + 1) : Nat) : Int) := by omega
      refine L_mv (L_want (by kernel_rfl) (L_mv (L_want (by kernel_rfl) (L_slen 9 x.2 rfl Tryd.underlying9 (by kernel_rfl) (L_want (by kernel_rfl) (L_load b1 0 (S s) (by kernel_rfl) (by kernel_rfl) (cell_obj o_x1 rfl) (L_want (by kernel_rfl) (L_slen 9 s rfl Tryd.underlying9 (by kernel_rfl) (L_want (by kernel_rfl) (L_load b13 0 (.int .i64 ((at_ : Nat) : Int)) (by kernel_rfl) (by kernel_rfl) (cell_obj o_x3 rfl) (L_want (by kernel_rfl) (L_subN ((s).length) at_ (by omega) (by omega) (by kernel_rfl) (by kernel_rfl) (L_want (by kernel_rfl) (L_cmp .i64 (((x.2).length : Nat) : Int) ((((s).length - at_) : Nat) : Int) (((s).length - at_) < (x.2).length) rfl (cmpN_gt ((x.2).length) ((s).length - at_)) (by kernel_rfl) (by kernel_rfl) ?_ ?_))))))))))))))
      · intro h39
        replace h39 : ((s).length - at_) < (x.2).length := by omega
        refine L_pickF (by kernel_rfl) (L_mv (L_skip (by kernel_rfl) (L_skip (by kernel_rfl) (L_skip (by kernel_rfl) (L_skip (by kernel_rfl) (L_skip (by kernel_rfl) (L_skip (by kernel_rfl) (L_skip (by kernel_rfl) (L_skip (by kernel_rfl) (L_skip (by kernel_rfl) (L_pickT (by kernel_rfl) (L_nil (thenQ_normal (W_true (by kernel_rfl) (W_seq (W_region (L_store b4 0 (.bool false) [(.bool false)] [(.bool false)] 4 (by kernel_rfl) (by kernel_rfl) rfl (by kernel_rfl) o_x2 (by simp) rfl ?_)))))))))))))))))
        intro w40 hW41
        replace hb := hb.trans (hW41.below g_x2)
        replace hk := hk.ch (Ch.of_wrote hW41) hK (fun k e h => nv_x2 (e ▸ h))
        replace hK := Nat.le_trans hK (Nat.le_of_eq hW41.size.symm)
        replace hs := Nat.le_trans hs (Nat.le_of_eq hW41.size.symm)
        have n_o_x1 := obj_wrote o_x1 hW41 (obj_ne o_x1 o_x2 (by simp))
        have n_o_x3 := obj_wrote o_x3 hW41 (obj_ne o_x3 o_x2 (by simp))
        have n_o_x4 := obj_wrote o_x4 hW41 (obj_ne o_x4 o_x2 (by simp))
        have n_o_cb26 := obj_wrote o_cb26 hW41 (obj_ne o_cb26 o_x2 (by simp))
        have n_o_cb30 := obj_wrote o_cb30 hW41 (obj_ne o_cb30 o_x2 (by simp))
        replace o_x1 := n_o_x1; clear n_o_x1
        replace o_x3 := n_o_x3; clear n_o_x3
        replace o_x4 := n_o_x4; clear n_o_x4
        replace o_cb26 := n_o_cb26; clear n_o_cb26
        replace o_cb30 := n_o_cb30; clear n_o_cb30
        replace o_x2 := hW41.here
        refine L_nil (thenQ_normal (W_ret (thenQ_ret (blkQ_ret ?_))))
        exfalso; first | omega | exact absurd k3 (by assumption) | (have hx0 : x.2.length = 0 := (by rw [(by assumption : x.2 = [])]; rfl); omega) | (rcases k4 with ⟨e, e1, _⟩ | ⟨e0, l0, n0⟩ | ⟨e0, f0, l0, n0⟩ <;> omega)
      · intro h42
        replace h42 : (x.2).length ≤ ((s).length - at_) := by omega
        refine L_pickF (by kernel_rfl) (L_mv (L_want (by kernel_rfl) (L_load b1 0 (S s) (by kernel_rfl) (by kernel_rfl) (cell_obj o_x1 rfl) (L_want (by kernel_rfl) (L_load b13 0 (.int .i64 ((at_ : Nat) : Int)) (by kernel_rfl) (by kernel_rfl) (cell_obj o_x3 rfl) (L_want (by kernel_rfl) (L_load b13 0 (.int .i64 ((at_ : Nat) : Int)) (by kernel_rfl) (by kernel_rfl) (cell_obj o_x3 rfl) (L_want (by kernel_rfl) (L_mv (L_want (by kernel_rfl) (L_slen 9 x.2 rfl Tryd.underlying9 (by kernel_rfl) (L_want (by kernel_rfl) (L_addN at_ ((x.2).length) (by omega) (by kernel_rfl) (by kernel_rfl) (L_want (by kernel_rfl) (L_sslice s at_ (at_ + (x.2).length) Tryd.underlying9 (by kernel_rfl) ⟨.i64, by kernel_rfl⟩ ⟨.i64, by kernel_rfl⟩ (by first | omega | (rcases k4 with ⟨e, e1, _⟩ | ⟨e0, l0, n0⟩ | ⟨e0, f0, l0, n0⟩ <;> omega)) (by first | omega | (rcases k4 with ⟨e, e1, _⟩ | ⟨e0, l0, n0⟩ | ⟨e0, f0, l0, n0⟩ <;> omega)) (L_want (by kernel_rfl) (L_mv (L_want (by kernel_rfl) (L_sne (List.drop at_ (List.take (at_ + (x.2).length) s)) x.2 rfl (by kernel_rfl) (by kernel_rfl) ?_ ?_)))))))))))))))))))
        · intro h43
          refine L_pickF (by kernel_rfl) (L_nil (thenQ_normal (W_true (by kernel_rfl) (W_seq (W_region (L_store b4 0 (.bool false) [(.bool false)] [(.bool false)] 4 (by kernel_rfl) (by kernel_rfl) rfl (by kernel_rfl) o_x2 (by simp) rfl ?_))))))
          intro w44 hW45
          replace hb := hb.trans (hW45.below g_x2)
          replace hk := hk.ch (Ch.of_wrote hW45) hK (fun k e h => nv_x2 (e ▸ h))
          replace hK := Nat.le_trans hK (Nat.le_of_eq hW45.size.symm)
          replace hs := Nat.le_trans hs (Nat.le_of_eq hW45.size.symm)
          have n_o_x1 := obj_wrote o_x1 hW45 (obj_ne o_x1 o_x2 (by simp))
          have n_o_x3 := obj_wrote o_x3 hW45 (obj_ne o_x3 o_x2 (by simp))
          have n_o_x4 := obj_wrote o_x4 hW45 (obj_ne o_x4 o_x2 (by simp))
          have n_o_cb26 := obj_wrote o_cb26 hW45 (obj_ne o_cb26 o_x2 (by simp))
          have n_o_cb30 := obj_wrote o_cb30 hW45 (obj_ne o_cb30 o_x2 (by simp))
          replace o_x1 := n_o_x1; clear n_o_x1
          replace o_x3 := n_o_x3; clear n_o_x3
          replace o_x4 := n_o_x4; clear n_o_x4
          replace o_cb26 := n_o_cb26; clear n_o_cb26
          replace o_cb30 := n_o_cb30; clear n_o_cb30
          replace o_x2 := hW45.here
          refine L_nil (thenQ_normal (W_ret (thenQ_ret (blkQ_ret ?_))))
          exfalso; first | omega | exact absurd k3 (by assumption) | (have hx0 : x.2.length = 0 := (by rw [(by assumption : x.2 = [])]; rfl); omega) | (rcases k4 with ⟨e, e1, _⟩ | ⟨e0, l0, n0⟩ | ⟨e0, f0, l0, n0⟩ <;> omega)
        · intro h46
          refine L_pickF (by kernel_rfl) (L_nil (thenQ_normal (W_false (by kernel_rfl) (W_skip (thenQ_normal (W_seq (W_region (L_load b13 0 (.int .i64 ((at_ : Nat) : Int)) (by kernel_rfl) (by kernel_rfl) (cell_obj o_x3 rfl) (L_mv (L_slen 9 x.2 rfl Tryd.underlying9 (by kernel_rfl) (L_addN at_ ((x.2).length) (by omega) (by kernel_rfl) (by kernel_rfl) (L_store b13 0 (.int .i64 (((at_ + (x.2).length) : Nat) : Int)) [(.int .i64 ((at_ : Nat) : Int))] [(.int .i64 (((at_ + (x.2).length) : Nat) : Int))] 3 (by kernel_rfl) (by kernel_rfl) rfl (by kernel_rfl) o_x3 (by simp) rfl ?_))))))))))))
          intro w47 hW48
          replace hb := hb.trans (hW48.below g_x3)
          replace hk := hk.ch (Ch.of_wrote hW48) hK (fun k e h => nv_x3 (e ▸ h))
          replace hK := Nat.le_trans hK (Nat.le_of_eq hW48.size.symm)
          replace hs := Nat.le_trans hs (Nat.le_of_eq hW48.size.symm)
          have n_o_x1 := obj_wrote o_x1 hW48 (obj_ne o_x1 o_x3 (by simp))
          have n_o_x2 := obj_wrote o_x2 hW48 (obj_ne o_x2 o_x3 (by simp))
          have n_o_x4 := obj_wrote o_x4 hW48 ne_x4_x3
          have n_o_cb26 := obj_wrote o_cb26 hW48 (obj_ne o_cb26 o_x3 (by simp))
          have n_o_cb30 := obj_wrote o_cb30 hW48 (obj_ne o_cb30 o_x3 (by simp))
          replace o_x1 := n_o_x1; clear n_o_x1
          replace o_x2 := n_o_x2; clear n_o_x2
          replace o_x4 := n_o_x4; clear n_o_x4
          replace o_cb26 := n_o_cb26; clear n_o_cb26
          replace o_cb30 := n_o_cb30; clear n_o_cb30
          replace o_x3 := hW48.here
          refine L_nil (thenQ_normal (W_block (W_seq (W_region (L_load b13 0 (.int .i64 (((at_ + (x.2).length) : Nat) : Int)) (by kernel_rfl) (by kernel_rfl) (cell_obj o_x3 rfl) (L_load b1 0 (S s) (by kernel_rfl) (by kernel_rfl) (cell_obj o_x1 rfl) (L_slen 9 s rfl Tryd.underlying9 (by kernel_rfl) (L_cmp .i64 (((at_ + (x.2).length) : Nat) : Int) (((s).length : Nat) : Int) ((at_ + (x.2).length) = (s).length) rfl (cmpN_eq (at_ + (x.2).length) ((s).length)) (by kernel_rfl) (by kernel_rfl) ?_ ?_))))))))
          · intro h49
            replace h49 : (at_ + (x.2).length) = (s).length := by omega
            refine L_as (L_nil (thenQ_normal (W_true (by kernel_rfl) (W_seq (W_region (L_mv (L_seq x.2 ([] : List UInt8) rfl (by kernel_rfl) (by kernel_rfl) ?_ ?_)))))))
            · intro h50
              refine L_nil (thenQ_normal (W_true (by kernel_rfl) (W_seq (W_region (L_store b4 0 (.bool false) [(.bool false)] [(.bool false)] 4 (by kernel_rfl) (by kernel_rfl) rfl (by kernel_rfl) o_x2 (by simp) rfl ?_)))))
              intro w51 hW52
              replace hb := hb.trans (hW52.below g_x2)
              replace hk := hk.ch (Ch.of_wrote hW52) hK (fun k e h => nv_x2 (e ▸ h))
              replace hK := Nat.le_trans hK (Nat.le_of_eq hW52.size.symm)
              replace hs := Nat.le_trans hs (Nat.le_of_eq hW52.size.symm)
              have n_o_x1 := obj_wrote o_x1 hW52 (obj_ne o_x1 o_x2 (by simp))
              have n_o_x3 := obj_wrote o_x3 hW52 (obj_ne o_x3 o_x2 (by simp))
              have n_o_x4 := obj_wrote o_x4 hW52 (obj_ne o_x4 o_x2 (by simp))
              have n_o_cb26 := obj_wrote o_cb26 hW52 (obj_ne o_cb26 o_x2 (by simp))
              have n_o_cb30 := obj_wrote o_cb30 hW52 (obj_ne o_cb30 o_x2 (by simp))
              replace o_x1 := n_o_x1; clear n_o_x1
              replace o_x3 := n_o_x3; clear n_o_x3
              replace o_x4 := n_o_x4; clear n_o_x4
              replace o_cb26 := n_o_cb26; clear n_o_cb26
              replace o_cb30 := n_o_cb30; clear n_o_cb30
              replace o_x2 := hW52.here
              refine L_nil (thenQ_normal (W_ret (blkQ_ret (blkQ_ret ?_))))
              exfalso; first | omega | exact absurd k3 (by assumption) | (have hx0 : x.2.length = 0 := (by rw [(by assumption : x.2 = [])]; rfl); omega) | (rcases k4 with ⟨e, e1, _⟩ | ⟨e0, l0, n0⟩ | ⟨e0, f0, l0, n0⟩ <;> omega)
            · intro h53
              refine L_nil (thenQ_normal (W_false (by kernel_rfl) (W_skip (blkQ_normal (blkQ_normal ?_)))))
              refine round_normal hk o_cb30 ⟨(at_ + (x.2).length), (n + 1), o_x1, o_x2, o_x3, o_x4, o_cb26, o_cb30, hb, ?_, ?_⟩
              · simp only [List.length_append, List.length_cons, List.length_nil]; omega
              · rw [List.length_append, List.length_singleton]; (rcases k4 with ⟨e, e1, _⟩ | ⟨e0, l0, n0⟩ | ⟨e0, f0, l0, n0⟩ <;> omega)
          · intro h54
            replace h54 : (at_ + (x.2).length) ≠ (s).length := by omega
            refine L_as (L_nil (thenQ_normal (W_false (by kernel_rfl) (W_seq (W_region (L_load b1 0 (S s) (by kernel_rfl) (by kernel_rfl) (cell_obj o_x1 rfl) (L_load b13 0 (.int .i64 (((at_ + (x.2).length) : Nat) : Int)) (by kernel_rfl) (by kernel_rfl) (cell_obj o_x3 rfl) ?_)))))))
            have hz := get_some s (at_ + (x.2).length) (by first | omega | (rcases k4 with ⟨e, e1, _⟩ | ⟨e0, l0, n0⟩ | ⟨e0, f0, l0, n0⟩ <;> omega)); obtain ⟨c55, hc56⟩ := hz
            have := c55.toNat_lt
            have hg_c55 := getD_nat hc56
            refine L_sindex (k := .i64) s (at_ + (x.2).length) c55 Tryd.underlying9 hc56 (by kernel_rfl) (by kernel_rfl) (L_cmp .u8 ((c55.toNat : Nat) : Int) ((10 : Nat) : Int) (c55.toNat = 10) rfl (cmpN_eq c55.toNat 10) (by kernel_rfl) (by kernel_rfl) ?_ ?_)
            · intro h57
              replace h57 : c55.toNat = 10 := by omega
              refine L_as (L_nil (thenQ_normal (W_true (by kernel_rfl) (W_region (L_load b13 0 (.int .i64 (((at_ + (x.2).length) : Nat) : Int)) (by kernel_rfl) (by kernel_rfl) (cell_obj o_x3 rfl) (L_addN (at_ + (x.2).length) 1 (by omega) (by kernel_rfl) (by kernel_rfl) (L_store b13 0 (.int .i64 ((((at_ + (x.2).length) + 1) : Nat) : Int)) [(.int .i64 (((at_ + (x.2).length) : Nat) : Int))] [(.int .i64 ((((at_ + (x.2).length) + 1) : Nat) : Int))] 3 (by kernel_rfl) (by kernel_rfl) rfl (by kernel_rfl) o_x3 (by simp) rfl ?_)))))))
              intro w58 hW59
              replace hb := hb.trans (hW59.below g_x3)
              replace hk := hk.ch (Ch.of_wrote hW59) hK (fun k e h => nv_x3 (e ▸ h))
              replace hK := Nat.le_trans hK (Nat.le_of_eq hW59.size.symm)
              replace hs := Nat.le_trans hs (Nat.le_of_eq hW59.size.symm)
              have n_o_x1 := obj_wrote o_x1 hW59 (obj_ne o_x1 o_x3 (by simp))
              have n_o_x2 := obj_wrote o_x2 hW59 (obj_ne o_x2 o_x3 (by simp))
              have n_o_x4 := obj_wrote o_x4 hW59 ne_x4_x3
              have n_o_cb26 := obj_wrote o_cb26 hW59 (obj_ne o_cb26 o_x3 (by simp))
              have n_o_cb30 := obj_wrote o_cb30 hW59 (obj_ne o_cb30 o_x3 (by simp))
              replace o_x1 := n_o_x1; clear n_o_x1
              replace o_x2 := n_o_x2; clear n_o_x2
              replace o_x4 := n_o_x4; clear n_o_x4
              replace o_cb26 := n_o_cb26; clear n_o_cb26
              replace o_cb30 := n_o_cb30; clear n_o_cb30
              replace o_x3 := hW59.here
              refine L_nil (blkQ_normal (blkQ_normal ?_))
              refine round_normal hk o_cb30 ⟨((at_ + (x.2).length) + 1), (n + 1), o_x1, o_x2, o_x3, o_x4, o_cb26, o_cb30, hb, ?_, ?_⟩
              · simp only [List.length_append, List.length_cons, List.length_nil]; omega
              · rw [List.length_append, List.length_singleton]; (rcases k4 with ⟨e, e1, _⟩ | ⟨e0, l0, n0⟩ | ⟨e0, f0, l0, n0⟩ <;> omega)
            · intro h60
              replace h60 : c55.toNat ≠ 10 := by omega
              refine L_as (L_nil (thenQ_normal (W_false (by kernel_rfl) (W_seq (W_region (L_load b13 0 (.int .i64 (((at_ + (x.2).length) : Nat) : Int)) (by kernel_rfl) (by kernel_rfl) (cell_obj o_x3 rfl) (L_addN (at_ + (x.2).length) 1 (by omega) (by kernel_rfl) (by kernel_rfl) (L_load b1 0 (S s) (by kernel_rfl) (by kernel_rfl) (cell_obj o_x1 rfl) (L_slen 9 s rfl Tryd.underlying9 (by kernel_rfl) (L_cmp .i64 ((((at_ + (x.2).length) + 1) : Nat) : Int) (((s).length : Nat) : Int) (((at_ + (x.2).length) + 1) < (s).length) rfl (cmpN_lt ((at_ + (x.2).length) + 1) ((s).length)) (by kernel_rfl) (by kernel_rfl) ?_ ?_))))))))))
              · intro h61
                replace h61 : ((at_ + (x.2).length) + 1) < (s).length := by omega
                refine L_mv (L_want (by kernel_rfl) (L_load b1 0 (S s) (by kernel_rfl) (by kernel_rfl) (cell_obj o_x1 rfl) (L_want (by kernel_rfl) (L_load b13 0 (.int .i64 (((at_ + (x.2).length) : Nat) : Int)) (by kernel_rfl) (by kernel_rfl) (cell_obj o_x3 rfl) (L_want (by kernel_rfl) ?_)))))
                refine L_sindex (k := .i64) s (at_ + (x.2).length) c55 Tryd.underlying9 hc56 (by kernel_rfl) (by kernel_rfl) (L_want (by kernel_rfl) (L_cmp .u8 ((c55.toNat : Nat) : Int) ((13 : Nat) : Int) (c55.toNat = 13) rfl (cmpN_eq c55.toNat 13) (by kernel_rfl) (by kernel_rfl) ?_ ?_))
                · intro h62
                  replace h62 : c55.toNat = 13 := by omega
                  refine L_pickT (by kernel_rfl) (L_mv (L_want (by kernel_rfl) (L_load b1 0 (S s) (by kernel_rfl) (by kernel_rfl) (cell_obj o_x1 rfl) (L_want (by kernel_rfl) (L_load b13 0 (.int .i64 (((at_ + (x.2).length) : Nat) : Int)) (by kernel_rfl) (by kernel_rfl) (cell_obj o_x3 rfl) (L_want (by kernel_rfl) (L_addN (at_ + (x.2).length) 1 (by omega) (by kernel_rfl) (by kernel_rfl) (L_want (by kernel_rfl) ?_))))))))
                  have hz := get_some s ((at_ + (x.2).length) + 1) (by first | omega | (rcases k4 with ⟨e, e1, _⟩ | ⟨e0, l0, n0⟩ | ⟨e0, f0, l0, n0⟩ <;> omega)); obtain ⟨c63, hc64⟩ := hz
                  have := c63.toNat_lt
                  have hg_c63 := getD_nat hc64
                  refine L_sindex (k := .i64) s ((at_ + (x.2).length) + 1) c63 Tryd.underlying9 hc64 (by kernel_rfl) (by kernel_rfl) (L_want (by kernel_rfl) (L_cmp .u8 ((c63.toNat : Nat) : Int) ((10 : Nat) : Int) (c63.toNat = 10) rfl (cmpN_eq c63.toNat 10) (by kernel_rfl) (by kernel_rfl) ?_ ?_))
                  · intro h65
                    replace h65 : c63.toNat = 10 := by omega
                    refine L_pickT (by kernel_rfl) (L_as (L_nil (thenQ_normal (W_true (by kernel_rfl) (W_region (L_load b13 0 (.int .i64 (((at_ + (x.2).length) : Nat) : Int)) (by kernel_rfl) (by kernel_rfl) (cell_obj o_x3 rfl) (L_addN (at_ + (x.2).length) 2 (by omega) (by kernel_rfl) (by kernel_rfl) (L_store b13 0 (.int .i64 ((((at_ + (x.2).length) + 2) : Nat) : Int)) [(.int .i64 (((at_ + (x.2).length) : Nat) : Int))] [(.int .i64 ((((at_ + (x.2).length) + 2) : Nat) : Int))] 3 (by kernel_rfl) (by kernel_rfl) rfl (by kernel_rfl) o_x3 (by simp) rfl ?_))))))))
                    intro w66 hW67
                    replace hb := hb.trans (hW67.below g_x3)
                    replace hk := hk.ch (Ch.of_wrote hW67) hK (fun k e h => nv_x3 (e ▸ h))
                    replace hK := Nat.le_trans hK (Nat.le_of_eq hW67.size.symm)
                    replace hs := Nat.le_trans hs (Nat.le_of_eq hW67.size.symm)
                    have n_o_x1 := obj_wrote o_x1 hW67 (obj_ne o_x1 o_x3 (by simp))
                    have n_o_x2 := obj_wrote o_x2 hW67 (obj_ne o_x2 o_x3 (by simp))
                    have n_o_x4 := obj_wrote o_x4 hW67 ne_x4_x3
                    have n_o_cb26 := obj_wrote o_cb26 hW67 (obj_ne o_cb26 o_x3 (by simp))
                    have n_o_cb30 := obj_wrote o_cb30 hW67 (obj_ne o_cb30 o_x3 (by simp))
                    replace o_x1 := n_o_x1; clear n_o_x1
                    replace o_x2 := n_o_x2; clear n_o_x2
                    replace o_x4 := n_o_x4; clear n_o_x4
                    replace o_cb26 := n_o_cb26; clear n_o_cb26
                    replace o_cb30 := n_o_cb30; clear n_o_cb30
                    replace o_x3 := hW67.here
                    refine L_nil (blkQ_normal (blkQ_normal ?_))
                    refine round_normal hk o_cb30 ⟨((at_ + (x.2).length) + 2), (n + 1), o_x1, o_x2, o_x3, o_x4, o_cb26, o_cb30, hb, ?_, ?_⟩
                    · simp only [List.length_append, List.length_cons, List.length_nil]; omega
                    · rw [List.length_append, List.length_singleton]; (rcases k4 with ⟨e, e1, _⟩ | ⟨e0, l0, n0⟩ | ⟨e0, f0, l0, n0⟩ <;> omega)
                  · intro h68
                    replace h68 : c63.toNat ≠ 10 := by omega
                    refine L_pickT (by kernel_rfl) (L_as (L_nil (thenQ_normal (W_false (by kernel_rfl) (W_seq (W_region (L_store b4 0 (.bool false) [(.bool false)] [(.bool false)] 4 (by kernel_rfl) (by kernel_rfl) rfl (by kernel_rfl) o_x2 (by simp) rfl ?_)))))))
                    intro w69 hW70
                    replace hb := hb.trans (hW70.below g_x2)
                    replace hk := hk.ch (Ch.of_wrote hW70) hK (fun k e h => nv_x2 (e ▸ h))
                    replace hK := Nat.le_trans hK (Nat.le_of_eq hW70.size.symm)
                    replace hs := Nat.le_trans hs (Nat.le_of_eq hW70.size.symm)
                    have n_o_x1 := obj_wrote o_x1 hW70 (obj_ne o_x1 o_x2 (by simp))
                    have n_o_x3 := obj_wrote o_x3 hW70 (obj_ne o_x3 o_x2 (by simp))
                    have n_o_x4 := obj_wrote o_x4 hW70 (obj_ne o_x4 o_x2 (by simp))
                    have n_o_cb26 := obj_wrote o_cb26 hW70 (obj_ne o_cb26 o_x2 (by simp))
                    have n_o_cb30 := obj_wrote o_cb30 hW70 (obj_ne o_cb30 o_x2 (by simp))
                    replace o_x1 := n_o_x1; clear n_o_x1
                    replace o_x3 := n_o_x3; clear n_o_x3
                    replace o_x4 := n_o_x4; clear n_o_x4
                    replace o_cb26 := n_o_cb26; clear n_o_cb26
                    replace o_cb30 := n_o_cb30; clear n_o_cb30
                    replace o_x2 := hW70.here
                    refine L_nil (thenQ_normal (W_ret (blkQ_ret (blkQ_ret ?_))))
                    exfalso; first | omega | exact absurd k3 (by assumption) | (have hx0 : x.2.length = 0 := (by rw [(by assumption : x.2 = [])]; rfl); omega) | (rcases k4 with ⟨e, e1, _⟩ | ⟨e0, l0, n0⟩ | ⟨e0, f0, l0, n0⟩ <;> omega)
                · intro h71
                  replace h71 : c55.toNat ≠ 13 := by omega
                  refine L_pickT (by kernel_rfl) (L_mv (L_skip (by kernel_rfl) (L_skip (by kernel_rfl) (L_skip (by kernel_rfl) (L_skip (by kernel_rfl) (L_skip (by kernel_rfl) (L_pickF (by kernel_rfl) (L_as (L_nil (thenQ_normal (W_false (by kernel_rfl) (W_seq (W_region (L_store b4 0 (.bool false) [(.bool false)] [(.bool false)] 4 (by kernel_rfl) (by kernel_rfl) rfl (by kernel_rfl) o_x2 (by simp) rfl ?_))))))))))))))
                  intro w72 hW73
                  replace hb := hb.trans (hW73.below g_x2)
                  replace hk := hk.ch (Ch.of_wrote hW73) hK (fun k e h => nv_x2 (e ▸ h))
                  replace hK := Nat.le_trans hK (Nat.le_of_eq hW73.size.symm)
                  replace hs := Nat.le_trans hs (Nat.le_of_eq hW73.size.symm)
                  have n_o_x1 := obj_wrote o_x1 hW73 (obj_ne o_x1 o_x2 (by simp))
                  have n_o_x3 := obj_wrote o_x3 hW73 (obj_ne o_x3 o_x2 (by simp))
                  have n_o_x4 := obj_wrote o_x4 hW73 (obj_ne o_x4 o_x2 (by simp))
                  have n_o_cb26 := obj_wrote o_cb26 hW73 (obj_ne o_cb26 o_x2 (by simp))
                  have n_o_cb30 := obj_wrote o_cb30 hW73 (obj_ne o_cb30 o_x2 (by simp))
                  replace o_x1 := n_o_x1; clear n_o_x1
                  replace o_x3 := n_o_x3; clear n_o_x3
                  replace o_x4 := n_o_x4; clear n_o_x4
                  replace o_cb26 := n_o_cb26; clear n_o_cb26
                  replace o_cb30 := n_o_cb30; clear n_o_cb30
                  replace o_x2 := hW73.here
                  refine L_nil (thenQ_normal (W_ret (blkQ_ret (blkQ_ret ?_))))
                  exfalso; first | omega | exact absurd k3 (by assumption) | (have hx0 : x.2.length = 0 := (by rw [(by assumption : x.2 = [])]; rfl); omega) | (rcases k4 with ⟨e, e1, _⟩ | ⟨e0, l0, n0⟩ | ⟨e0, f0, l0, n0⟩ <;> omega)
              · intro h74
                replace h74 : (s).length ≤ ((at_ + (x.2).length) + 1) := by omega
                refine L_mv (L_skip (by kernel_rfl) (L_skip (by kernel_rfl) (L_skip (by kernel_rfl) (L_skip (by kernel_rfl) (L_pickF (by kernel_rfl) (L_mv (L_skip (by kernel_rfl) (L_skip (by kernel_rfl) (L_skip (by kernel_rfl) (L_skip (by kernel_rfl) (L_skip (by kernel_rfl) (L_pickF (by kernel_rfl) (L_as (L_nil (thenQ_normal (W_false (by kernel_rfl) (W_seq (W_region (L_store b4 0 (.bool false) [(.bool false)] [(.bool false)] 4 (by kernel_rfl) (by kernel_rfl) rfl (by kernel_rfl) o_x2 (by simp) rfl ?_)))))))))))))))))))
                intro w75 hW76
                replace hb := hb.trans (hW76.below g_x2)
                replace hk := hk.ch (Ch.of_wrote hW76) hK (fun k e h => nv_x2 (e ▸ h))
                replace hK := Nat.le_trans hK (Nat.le_of_eq hW76.size.symm)
                replace hs := Nat.le_trans hs (Nat.le_of_eq hW76.size.symm)
                have n_o_x1 := obj_wrote o_x1 hW76 (obj_ne o_x1 o_x2 (by simp))
                have n_o_x3 := obj_wrote o_x3 hW76 (obj_ne o_x3 o_x2 (by simp))
                have n_o_x4 := obj_wrote o_x4 hW76 (obj_ne o_x4 o_x2 (by simp))
                have n_o_cb26 := obj_wrote o_cb26 hW76 (obj_ne o_cb26 o_x2 (by simp))
                have n_o_cb30 := obj_wrote o_cb30 hW76 (obj_ne o_cb30 o_x2 (by simp))
                replace o_x1 := n_o_x1; clear n_o_x1
                replace o_x3 := n_o_x3; clear n_o_x3
                replace o_x4 := n_o_x4; clear n_o_x4
                replace o_cb26 := n_o_cb26; clear n_o_cb26
                replace o_cb30 := n_o_cb30; clear n_o_cb30
                replace o_x2 := hW76.here
                refine L_nil (thenQ_normal (W_ret (blkQ_ret (blkQ_ret ?_))))
                exfalso; first | omega | exact absurd k3 (by assumption) | (have hx0 : x.2.length = 0 := (by rw [(by assumption : x.2 = [])]; rfl); omega) | (rcases k4 with ⟨e, e1, _⟩ | ⟨e0, l0, n0⟩ | ⟨e0, f0, l0, n0⟩ <;> omega)
  · intro K A hi hsz o_D0
    obtain ⟨at_, n, o_x1, o_x2, o_x3, o_x4, o_cb26, o_cb30, hb, p1, p2⟩ := hi
    have ne_x1_D0 : b1 ≠ w27.heap.size := Nat.ne_of_lt lt_x1_0
    have ne_D0_x1 := ne_x1_D0.symm
    have ne_x2_D0 : b4 ≠ w27.heap.size := Nat.ne_of_lt lt_x2_0
    have ne_D0_x2 := ne_x2_D0.symm
    have ne_x3_D0 : b13 ≠ w27.heap.size := Nat.ne_of_lt lt_x3_0
    have ne_D0_x3 := ne_x3_D0.symm
    have ne_x4_D0 : b18 ≠ w27.heap.size := Nat.ne_of_lt lt_x4_0
    have ne_D0_x4 := ne_x4_D0.symm
    have ne_cb26_D0 : cb26 ≠ w27.heap.size := Nat.ne_of_lt lt_cb26_0
    have ne_D0_cb26 := ne_cb26_D0.symm
    have ne_cb30_D0 : cb30 ≠ w27.heap.size := Nat.ne_of_lt lt_cb30_0
    have ne_D0_cb30 := ne_cb30_D0.symm
    have hs : w.heap.size ≤ _ := hb.size
    refine blkQ_normal (thenQ_normal (W_seq (W_region (L_load b13 0 (.int .i64 ((at_ : Nat) : Int)) (by kernel_rfl) (by kernel_rfl) (cell_obj o_x3 rfl) (L_load b1 0 (S s) (by kernel_rfl) (by kernel_rfl) (cell_obj o_x1 rfl) (L_slen 9 s rfl Tryd.underlying9 (by kernel_rfl) (L_cmp .i64 ((at_ : Nat) : Int) (((s).length : Nat) : Int) (at_ = (s).length) rfl (cmpN_eq at_ ((s).length)) (by kernel_rfl) (by kernel_rfl) ?_ ?_)))))))
    · intro h77
      replace h77 : at_ = (s).length := by omega
      refine L_mv (L_want (by kernel_rfl) (L_call 16 [] (by kernel_rfl) (by kernel_rfl) (c_furrowlaw03_awake  _ (gcell_below hty hb)) ?_))
      rintro _ w78 ⟨rfl, hB79⟩
      replace hb := hb.trans (hB79.mono hs)
      replace hs := Nat.le_trans hs (hB79.size)
      replace o_x1 := obj_below o_x1 hB79
      replace o_x2 := obj_below o_x2 hB79
      replace o_x3 := obj_below o_x3 hB79
      replace o_x4 := obj_below o_x4 hB79
      replace o_cb26 := obj_below o_cb26 hB79
      replace o_cb30 := obj_below o_cb30 hB79
      replace o_D0 := obj_below o_D0 hB79
      refine L_pickT (by kernel_rfl) (L_store b4 0 (.bool true) [(.bool false)] [(.bool true)] 4 (by kernel_rfl) (by kernel_rfl) rfl (by kernel_rfl) o_x2 (by simp) rfl ?_)
      intro w81 hW82
      replace hb := hb.trans (hW82.below g_x2)
      replace hs := Nat.le_trans hs (Nat.le_of_eq hW82.size.symm)
      have n_o_x1 := obj_wrote o_x1 hW82 (obj_ne o_x1 o_x2 (by simp))
      have n_o_x3 := obj_wrote o_x3 hW82 (obj_ne o_x3 o_x2 (by simp))
      have n_o_x4 := obj_wrote o_x4 hW82 (obj_ne o_x4 o_x2 (by simp))
      have n_o_cb26 := obj_wrote o_cb26 hW82 (obj_ne o_cb26 o_x2 (by simp))
      have n_o_cb30 := obj_wrote o_cb30 hW82 (obj_ne o_cb30 o_x2 (by simp))
      have n_o_D0 := obj_wrote o_D0 hW82 (obj_ne o_D0 o_x2 (by simp))
      replace o_x1 := n_o_x1; clear n_o_x1
      replace o_x3 := n_o_x3; clear n_o_x3
      replace o_x4 := n_o_x4; clear n_o_x4
      replace o_cb26 := n_o_cb26; clear n_o_cb26
      replace o_cb30 := n_o_cb30; clear n_o_cb30
      replace o_D0 := n_o_D0; clear n_o_D0
      replace o_x2 := hW82.here
      refine L_nil (thenQ_normal (W_ret (end_retM (ds := [⟨.collected w27.heap.size, #[]⟩]) (by kernel_rfl) (Lv_mark o_D0 ?_))))
      intro w83 hW84
      replace hb := hb.trans (hW84.below hs_0)
      replace hs := Nat.le_trans hs (Nat.le_of_eq hW84.size.symm)
      have n_o_x1 := obj_wrote o_x1 hW84 (obj_ne o_x1 o_D0 (by simp))
      have n_o_x2 := obj_wrote o_x2 hW84 (obj_ne o_x2 o_D0 (by simp))
      have n_o_x3 := obj_wrote o_x3 hW84 (obj_ne o_x3 o_D0 (by simp))
      have n_o_x4 := obj_wrote o_x4 hW84 (obj_ne o_x4 o_D0 (by simp))
      have n_o_cb26 := obj_wrote o_cb26 hW84 (obj_ne o_cb26 o_D0 (by simp))
      have n_o_cb30 := obj_wrote o_cb30 hW84 (obj_ne o_cb30 o_D0 (by simp))
      replace o_x1 := n_o_x1; clear n_o_x1
      replace o_x2 := n_o_x2; clear n_o_x2
      replace o_x3 := n_o_x3; clear n_o_x3
      replace o_x4 := n_o_x4; clear n_o_x4
      replace o_cb26 := n_o_cb26; clear n_o_cb26
      replace o_cb30 := n_o_cb30; clear n_o_cb30
      replace o_D0 := hW84.here
      refine Lv_nil [.cell 2 4] [(.bool true)] rfl ⟨⟨⟨b4, 0, none⟩, by kernel_rfl, load_one (by kernel_rfl) (cell_obj o_x2 rfl)⟩, trivial⟩ ?_
      have e0 : true = true := by first | rfl | (exfalso; have := lost_end s; omega)
      exact ⟨congrArg Value.bool e0, hb⟩
    · intro h85
      replace h85 : at_ ≠ (s).length := by omega
      refine L_mv (L_skip (by kernel_rfl) (L_pickF (by kernel_rfl) (L_store b4 0 (.bool false) [(.bool false)] [(.bool false)] 4 (by kernel_rfl) (by kernel_rfl) rfl (by kernel_rfl) o_x2 (by simp) rfl ?_)))
      intro w86 hW87
      replace hb := hb.trans (hW87.below g_x2)
      replace hs := Nat.le_trans hs (Nat.le_of_eq hW87.size.symm)
      have n_o_x1 := obj_wrote o_x1 hW87 (obj_ne o_x1 o_x2 (by simp))
      have n_o_x3 := obj_wrote o_x3 hW87 (obj_ne o_x3 o_x2 (by simp))
      have n_o_x4 := obj_wrote o_x4 hW87 (obj_ne o_x4 o_x2 (by simp))
      have n_o_cb26 := obj_wrote o_cb26 hW87 (obj_ne o_cb26 o_x2 (by simp))
      have n_o_cb30 := obj_wrote o_cb30 hW87 (obj_ne o_cb30 o_x2 (by simp))
      have n_o_D0 := obj_wrote o_D0 hW87 (obj_ne o_D0 o_x2 (by simp))
      replace o_x1 := n_o_x1; clear n_o_x1
      replace o_x3 := n_o_x3; clear n_o_x3
      replace o_x4 := n_o_x4; clear n_o_x4
      replace o_cb26 := n_o_cb26; clear n_o_cb26
      replace o_cb30 := n_o_cb30; clear n_o_cb30
      replace o_D0 := n_o_D0; clear n_o_D0
      replace o_x2 := hW87.here
      refine L_nil (thenQ_normal (W_ret (end_retM (ds := [⟨.collected w27.heap.size, #[]⟩]) (by kernel_rfl) (Lv_mark o_D0 ?_))))
      intro w88 hW89
      replace hb := hb.trans (hW89.below hs_0)
      replace hs := Nat.le_trans hs (Nat.le_of_eq hW89.size.symm)
      have n_o_x1 := obj_wrote o_x1 hW89 (obj_ne o_x1 o_D0 (by simp))
      have n_o_x2 := obj_wrote o_x2 hW89 (obj_ne o_x2 o_D0 (by simp))
      have n_o_x3 := obj_wrote o_x3 hW89 (obj_ne o_x3 o_D0 (by simp))
      have n_o_x4 := obj_wrote o_x4 hW89 (obj_ne o_x4 o_D0 (by simp))
      have n_o_cb26 := obj_wrote o_cb26 hW89 (obj_ne o_cb26 o_D0 (by simp))
      have n_o_cb30 := obj_wrote o_cb30 hW89 (obj_ne o_cb30 o_D0 (by simp))
      replace o_x1 := n_o_x1; clear n_o_x1
      replace o_x2 := n_o_x2; clear n_o_x2
      replace o_x3 := n_o_x3; clear n_o_x3
      replace o_x4 := n_o_x4; clear n_o_x4
      replace o_cb26 := n_o_cb26; clear n_o_cb26
      replace o_cb30 := n_o_cb30; clear n_o_cb30
      replace o_D0 := hW89.here
      refine Lv_nil [.cell 2 4] [(.bool false)] rfl ⟨⟨⟨b4, 0, none⟩, by kernel_rfl, load_one (by kernel_rfl) (cell_obj o_x2 rfl)⟩, trivial⟩ ?_
      have e0 : false = true := by first | rfl | (exfalso; have := lost_end s; omega)
      exact ⟨congrArg Value.bool e0, hb⟩
  · intro K c _ x A _ h; exact h.elim

end Go.Proofs.YtapndpldphflcaaDoor
