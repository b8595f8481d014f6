/- Walks, written by my program walk.py out of the specification ggapI.py: each theorem says what one function returns and that it leaves memory as it was. -/
import Derived.Test.YthjgnnfonofgkaaPGap
import Derived.Test.YthjgnnfonofgkaaWghex
import Derived.Test.YthjgnnfonofgkaaWgmI
import Derived.Test.YthjgnnfonofgkaaWgnI
import Derived.Test.YthjgnnfonofgkaaFKah
import Derived.Test.YthjgnnfonofgkaaProg
import Derived.Tactics2
import Derived.Test.YthjgnnfonofgkaaFKu
namespace Go.Proofs.Ythjgnnfonofgkaa
open Go Go.RowKit Go.FK
set_option linter.unusedVariables false
set_option linter.unusedSimpArgs false


set_option maxHeartbeats 4000000 in
set_option maxRecDepth 100000 in
theorem it_gaps_I (bx_m b_m : Nat) (v_xs : Value) (xs : List (Int × Int × Int)) (hl : xs.length ≤ 4194304) (hr : RiseG 0 xs) :
    Iter2 (α := Rg) Try.prog 102 [.pointer (some ⟨bx_m, 0, none⟩)] (fun x => [.agg #[.int .i32 x.1, .int .i32 x.2]]) (gapsG xs) (fun w => w.heap[bx_m]? = some (.cells [(.pointer (some ⟨b_m, 0, none⟩))].toArray 41 (0, 0)) ∧ w.heap[b_m]? = some (.cells [v_xs, (.bool true)].toArray 109 (0, 0)) ∧ Rd w encSpanI v_xs xs) := by
  intro l J Jx w hN h0 hJs hJxs hY
  refine enterM (args := [(.func (.yield l) #[] #[]), (.pointer (some ⟨bx_m, 0, none⟩))]) Try.func102 rfl (by kernel_rfl : _ = 34) (by kernel_rfl) ?_
  have hb := Below.refl w.heap.size w
  have hs : w.heap.size ≤ w.heap.size := Nat.le_refl _
  obtain ⟨o_capm, o_capmm, p_xs⟩ := hN
  have in_p_xs := p_xs
  refine W_seq (W_region (L_new (fun b => .pointer (some ⟨b, 0, none⟩)) (.cells [(.func (.yield l) #[] #[])].toArray 99 (0, 0)) (by kernel_rfl) (by kernel_rfl) ?_))
  intro b1 w2 hN3
  have ne_capm_x2 : bx_m ≠ b1 := by have := (obj_lt o_capm); have := hN3.num; omega
  have ne_x2_capm := ne_capm_x2.symm
  have ne_capmm_x2 : b_m ≠ b1 := by have := (obj_lt o_capmm); have := hN3.num; omega
  have ne_x2_capmm := ne_capmm_x2.symm
  have g_x2 : w.heap.size ≤ b1 := by rw [hN3.num]; exact hs
  replace hb := hb.trans (hN3.below.mono hs)
  replace hs := Nat.le_trans hs (hN3.below.size)
  replace o_capm := obj_below o_capm hN3.below
  replace o_capmm := obj_below o_capmm hN3.below
  replace p_xs := p_xs.below hN3.below
  have o_x2 := hN3.here
  refine L_nil (thenQ_normal (W_seq (W_seq (W_region (L_load bx_m 0 (.pointer (some ⟨b_m, 0, none⟩)) (by kernel_rfl) (by kernel_rfl) (cell_obj o_capm rfl) (L_call 56 [(.pointer (some ⟨b_m, 0, none⟩))] (by kernel_rfl) (by kernel_rfl) (c_none_I b_m v_xs xs _ o_capmm p_xs) ?_))))))
  rintro _ w4 ⟨rfl, hB5⟩
  replace hb := hb.trans (hB5.mono hs)
  replace hs := Nat.le_trans hs (hB5.size)
  replace o_capm := obj_below o_capm hB5
  replace o_capmm := obj_below o_capmm hB5
  replace o_x2 := obj_below o_x2 hB5
  replace p_xs := p_xs.below hB5
  refine L_nil (thenQ_normal (W_false (by kernel_rfl) (W_skip (thenQ_normal (W_seq (W_region (L_new (fun b => .pointer (some ⟨b, 0, none⟩)) (.cells [(.int .i32 0)].toArray 21 (0, 0)) (by kernel_rfl) (by kernel_rfl) ?_)))))))
  intro b7 w8 hN9
  have ne_capm_x3 : bx_m ≠ b7 := by have := (obj_lt o_capm); have := hN9.num; omega
  have ne_x3_capm := ne_capm_x3.symm
  have ne_capmm_x3 : b_m ≠ b7 := by have := (obj_lt o_capmm); have := hN9.num; omega
  have ne_x3_capmm := ne_capmm_x3.symm
  have ne_x2_x3 : b1 ≠ b7 := by have := (obj_lt o_x2); have := hN9.num; omega
  have ne_x3_x2 := ne_x2_x3.symm
  have g_x3 : w.heap.size ≤ b7 := by rw [hN9.num]; exact hs
  replace hb := hb.trans (hN9.below.mono hs)
  replace hs := Nat.le_trans hs (hN9.below.size)
  replace o_capm := obj_below o_capm hN9.below
  replace o_capmm := obj_below o_capmm hN9.below
  replace o_x2 := obj_below o_x2 hN9.below
  replace p_xs := p_xs.below hN9.below
  have o_x3 := hN9.here
  refine L_store b7 0 (.int .i32 0) [(.int .i32 0)] [(.int .i32 0)] 21 (by kernel_rfl) (by kernel_rfl) rfl (by kernel_rfl) o_x3 (by simp) rfl ?_
  intro w10 hW11
  replace hb := hb.trans (hW11.below g_x3)
  replace hs := Nat.le_trans hs (Nat.le_of_eq hW11.size.symm)
  have n_o_capm := obj_wrote o_capm hW11 (obj_ne o_capm o_x3 (by simp))
  have n_o_capmm := obj_wrote o_capmm hW11 (obj_ne o_capmm o_x3 (by simp))
  have n_o_x2 := obj_wrote o_x2 hW11 (obj_ne o_x2 o_x3 (by simp))
  have n_p_xs := in_p_xs.below hb
  replace o_capm := n_o_capm; clear n_o_capm
  replace o_capmm := n_o_capmm; clear n_o_capmm
  replace o_x2 := n_o_x2; clear n_o_x2
  replace p_xs := n_p_xs; clear n_p_xs
  replace o_x3 := hW11.here
  refine L_nil (thenQ_normal (W_seq (W_seq (W_region (L_load bx_m 0 (.pointer (some ⟨b_m, 0, none⟩)) (by kernel_rfl) (by kernel_rfl) (cell_obj o_capm rfl) (L_call 61 [(.pointer (some ⟨b_m, 0, none⟩))] (by kernel_rfl) (by kernel_rfl) (c_all_I b_m v_xs xs _ o_capmm p_xs) ?_))))))
  rintro _ w12 ⟨cb15, rfl, o_cb15, g_cb15, hB13⟩
  have ne_capm_cb15 : bx_m ≠ cb15 := by have := (obj_lt o_capm); omega
  have ne_cb15_capm := ne_capm_cb15.symm
  have ne_capmm_cb15 : b_m ≠ cb15 := by have := (obj_lt o_capmm); omega
  have ne_cb15_capmm := ne_capmm_cb15.symm
  have ne_x2_cb15 : b1 ≠ cb15 := by have := (obj_lt o_x2); omega
  have ne_cb15_x2 := ne_x2_cb15.symm
  have ne_x3_cb15 : b7 ≠ cb15 := by have := (obj_lt o_x3); omega
  have ne_cb15_x3 := ne_x3_cb15.symm
  replace g_cb15 := Nat.le_trans hs g_cb15
  replace hb := hb.trans (hB13.mono hs)
  replace hs := Nat.le_trans hs (hB13.size)
  replace o_capm := obj_below o_capm hB13
  replace o_capmm := obj_below o_capmm hB13
  replace o_x2 := obj_below o_x2 hB13
  replace o_x3 := obj_below o_x3 hB13
  replace p_xs := p_xs.below hB13
  refine L_nil (thenQ_normal (W_block ?_))
  have lt_capm_0 : bx_m < w12.heap.size := obj_lt o_capm
  have lt_capmm_0 : b_m < w12.heap.size := obj_lt o_capmm
  have lt_x2_0 : b1 < w12.heap.size := obj_lt o_x2
  have lt_x3_0 : b7 < w12.heap.size := obj_lt o_x3
  have lt_cb15_0 : cb15 < w12.heap.size := obj_lt o_cb15
  have hs_0 := hs
  have pw_p_xs := p_xs
  refine W_rangeN 103 [(.pointer (some ⟨cb15, 0, none⟩))] xs (by kernel_rfl) (fun _ _ => rfl) (it_all_I cb15 b_m v_xs xs (by omega)) ⟨o_cb15, o_capmm, p_xs⟩ ((fun D A B h hc hd => ⟨obj_ch h.1 hc (fun h => Nat.not_lt.2 (hd _ h) lt_cb15_0), obj_ch h.2.1 hc (fun h => Nat.not_lt.2 (hd _ h) lt_capmm_0), Rd.ch p_xs (Nat.le_refl _) h.2.2 hc hd⟩)) (by intro x; rfl) (fun K pre A => ∃ (nx : Int), (A.heap[bx_m]? = some (.cells [(.pointer (some ⟨b_m, 0, none⟩))].toArray 41 (0, 0))) ∧ (A.heap[b_m]? = some (.cells [v_xs, (.bool true)].toArray 109 (0, 0))) ∧ (A.heap[b1]? = some (.cells [(.func (.yield l) #[] #[])].toArray 99 (0, 0))) ∧ (A.heap[b7]? = some (.cells [(.int .i32 nx)].toArray 21 (0, 0))) ∧ (A.heap[cb15]? = some (.cells [(.pointer (some ⟨b_m, 0, none⟩))].toArray 41 (0, 0))) ∧ (Rd A encSpanI v_xs xs) ∧ (w12.heap.size < K) ∧ (K ≤ A.heap.size) ∧ (J K (gapsP pre) A) ∧ (nx = nextP pre)) (fun K c pre A => (c = .ret) ∧ (w12.heap.size < K) ∧ (∃ gp gx, gp ++ [gx] <+: (gapsG xs) ∧ Jx K (gp ++ [gx]) A)) ?_ ?_ ?_ ?_ ?_ ?_
  · intro A hA hltA
    exact ⟨0, obj_below o_capm hA, obj_below o_capmm hA, obj_below o_x2 hA, obj_below o_x3 hA, obj_below o_cb15 hA, p_xs.below hA, hltA, Nat.le_refl _, h0 _ (hb.trans (hA.mono hs)), by rfl⟩
  · rintro K pre A B ⟨nx, o_capm, o_capmm, o_x2, o_x3, o_cb15, p_xs, hlt, hKA, hJ, r1⟩ hc
    exact ⟨nx, obj_ch o_capm hc (fun h => Nat.not_lt.2 h.1 lt_capm_0), obj_ch o_capmm hc (fun h => Nat.not_lt.2 h.1 lt_capmm_0), obj_ch o_x2 hc (fun h => Nat.not_lt.2 h.1 lt_x2_0), obj_ch o_x3 hc (fun h => Nat.not_lt.2 h.1 lt_x3_0), obj_ch o_cb15 hc (fun h => Nat.not_lt.2 h.1 lt_cb15_0), Rd.ch pw_p_xs (Nat.le_refl _) p_xs hc (fun k h => h.1), hlt, Nat.le_trans hKA hc.size, hJs _ _ _ _ hJ (hc.mono (fun k h => ⟨Nat.le_trans hs_0 h.1, h.2⟩)), r1⟩
  · rintro K c pre A B ⟨hcc, hlt, gp, gx, hg1, hg2⟩ hc
    exact ⟨hcc, hlt, gp, gx, hg1, hJxs _ _ _ _ hg2 (hc.mono (fun k h => ⟨Nat.le_trans hs_0 h.1, h.2⟩))⟩
  · intro l2 K pre x A hi hN2 hK0i hK hpri
    obtain ⟨nx, o_capm, o_capmm, o_x2, o_x3, o_cb15, p_xs, hlt, hKA, hJ, r1⟩ := hi
    have hs : w.heap.size ≤ A.heap.size := by omega
    have hK0 : w.heap.size ≤ K := by omega
    have hk := Kp.refl (w12.heap.size) K A
    have nv_capm : ¬ Iv (w12.heap.size) K bx_m := fun h => Nat.not_lt.2 h.1 lt_capm_0
    have nv_capmm : ¬ Iv (w12.heap.size) K b_m := fun h => Nat.not_lt.2 h.1 lt_capmm_0
    have nv_x2 : ¬ Iv (w12.heap.size) K b1 := fun h => Nat.not_lt.2 h.1 lt_x2_0
    have nv_x3 : ¬ Iv (w12.heap.size) K b7 := fun h => Nat.not_lt.2 h.1 lt_x3_0
    have nv_cb15 : ¬ Iv (w12.heap.size) K cb15 := fun h => Nat.not_lt.2 h.1 lt_cb15_0
    have iv_x2 : Iv w.heap.size K b1 := ⟨g_x2, by have := lt_x2_0; omega⟩
    have iv_x3 : Iv w.heap.size K b7 := ⟨g_x3, by have := lt_x3_0; omega⟩
    have iv_cb15 : Iv w.heap.size K cb15 := ⟨g_cb15, by have := lt_cb15_0; omega⟩
    replace o_cb15 := hN2.1
    replace o_capmm := hN2.2.1
    have hx := hr.pre hpri
    have hnp := next_le hr hpri
    refine W_region (L_new (fun b => .pointer (some ⟨b, 0, none⟩)) (.cells [(.int .i32 0), (.int .i32 0)].toArray 29 (0, 0)) (by kernel_rfl) (by kernel_rfl) ?_)
    intro b16 w17 hN18
    have ne_capm_x4 : bx_m ≠ b16 := by have := (obj_lt o_capm); have := hN18.num; omega
    have ne_x4_capm := ne_capm_x4.symm
    have ne_capmm_x4 : b_m ≠ b16 := by have := (obj_lt o_capmm); have := hN18.num; omega
    have ne_x4_capmm := ne_capmm_x4.symm
    have ne_x2_x4 : b1 ≠ b16 := by have := (obj_lt o_x2); have := hN18.num; omega
    have ne_x4_x2 := ne_x2_x4.symm
    have ne_x3_x4 : b7 ≠ b16 := by have := (obj_lt o_x3); have := hN18.num; omega
    have ne_x4_x3 := ne_x3_x4.symm
    have ne_cb15_x4 : cb15 ≠ b16 := by have := (obj_lt o_cb15); have := hN18.num; omega
    have ne_x4_cb15 := ne_cb15_x4.symm
    have g_x4 : w.heap.size ≤ b16 := by rw [hN18.num]; exact hs
    have nv_x4 : ¬ Iv w12.heap.size K b16 := fun h => by have := h.2; have := hN18.num; omega
    have hCJ := Ch.refl (Iv w.heap.size K) A
    have hKJ := hK
    have jv_x4 : (World.heap A).size ≤ b16 ∨ Iv w.heap.size K b16 := .inl (by rw [hN18.num]; exact hCJ.size)
    replace hk := hk.ch (Ch.of_below hN18.below) hK (fun _ h => h.elim)
    replace hCJ := hCJ.trans2 (Ch.of_below hN18.below) (fun _ h => h.elim)
    replace hK := Nat.le_trans hK (hN18.below.size)
    replace hs := Nat.le_trans hs (hN18.below.size)
    replace o_capm := obj_below o_capm hN18.below
    replace o_capmm := obj_below o_capmm hN18.below
    replace o_x2 := obj_below o_x2 hN18.below
    replace o_x3 := obj_below o_x3 hN18.below
    replace o_cb15 := obj_below o_cb15 hN18.below
    replace p_xs := p_xs.below hN18.below
    have o_x4 := hN18.here
    refine L_storeA b16 0 [(.int .i32 x.1), (.int .i32 x.2.1)] [(.int .i32 0), (.int .i32 0)] [(.int .i32 x.1), (.int .i32 x.2.1)] 29 (by kernel_rfl) (by kernel_rfl) rfl (by kernel_rfl) o_x4 (by kernel_rfl) rfl ?_
    intro w19 hW20
    replace hk := hk.ch (Ch.of_wrote hW20) hK (fun k e h => nv_x4 (e ▸ h))
    replace hCJ := hCJ.trans2 (Ch.of_wrote hW20) (fun k e => e ▸ jv_x4)
    replace hK := Nat.le_trans hK (Nat.le_of_eq hW20.size.symm)
    replace hs := Nat.le_trans hs (Nat.le_of_eq hW20.size.symm)
    have n_o_capm := obj_wrote o_capm hW20 (obj_ne o_capm o_x4 (by simp))
    have n_o_capmm := obj_wrote o_capmm hW20 (obj_ne o_capmm o_x4 (by simp))
    have n_o_x2 := obj_wrote o_x2 hW20 (obj_ne o_x2 o_x4 (by simp))
    have n_o_x3 := obj_wrote o_x3 hW20 (obj_ne o_x3 o_x4 (by simp))
    have n_o_cb15 := obj_wrote o_cb15 hW20 (obj_ne o_cb15 o_x4 (by simp))
    have n_p_xs := Rd.ch in_p_xs (Nat.le_refl _) p_xs (Ch.of_wrote hW20) (fun k e => e ▸ g_x4)
    replace o_capm := n_o_capm; clear n_o_capm
    replace o_capmm := n_o_capmm; clear n_o_capmm
    replace o_x2 := n_o_x2; clear n_o_x2
    replace o_x3 := n_o_x3; clear n_o_x3
    replace o_cb15 := n_o_cb15; clear n_o_cb15
    replace p_xs := n_p_xs; clear n_p_xs
    replace o_x4 := hW20.here
    refine L_nil ?_
    refine thenQ_normal ⟨hk, ?_⟩
    intro w21 hc22
    replace o_capm := obj_ch o_capm hc22 nv_capm
    replace o_capmm := obj_ch o_capmm hc22 nv_capmm
    replace o_x2 := obj_ch o_x2 hc22 nv_x2
    replace o_x3 := obj_ch o_x3 hc22 nv_x3
    replace o_cb15 := obj_ch o_cb15 hc22 nv_cb15
    replace o_x4 := obj_ch o_x4 hc22 nv_x4
    replace p_xs := Rd.ch pw_p_xs (Nat.le_refl _) p_xs hc22 (fun k h => h.1)
    replace hCJ := hCJ.trans (hc22.mono (fun k h => ⟨Nat.le_trans hs_0 h.1, h.2⟩))
    replace hs := Nat.le_trans hs hc22.size
    replace hK := Nat.le_trans hK hc22.size
    replace hk := Kp.refl (w12.heap.size) K w21
    refine W_block (W_seq (W_seq (W_region (L_run (.pointer (some ⟨b16, 0, none⟩)) (by kernel_rfl) (by kernel_rfl) (L_load b16 0 (.int .i32 x.1) (by kernel_rfl) (by kernel_rfl) (cell_obj o_x4 rfl) (L_load b7 0 (.int .i32 nx) (by kernel_rfl) (by kernel_rfl) (cell_obj o_x3 rfl) (L_cmp .i32 x.1 nx (nx < x.1) rfl (cmp_gt x.1 nx) (by kernel_rfl) (by kernel_rfl) ?_ ?_)))))))
    · intro h23
      replace h23 : nx < x.1 := by omega
      refine L_mv (L_want (by kernel_rfl) (L_load b1 0 (.func (.yield l) #[] #[]) (by kernel_rfl) (by kernel_rfl) (cell_obj o_x2 rfl) (L_want (by kernel_rfl) (L_load b7 0 (.int .i32 nx) (by kernel_rfl) (by kernel_rfl) (cell_obj o_x3 rfl) (L_want (by kernel_rfl) (L_run (.pointer (some ⟨b16, 0, none⟩)) (by kernel_rfl) (by kernel_rfl) (L_want (by kernel_rfl) (L_load b16 0 (.int .i32 x.1) (by kernel_rfl) (by kernel_rfl) (cell_obj o_x4 rfl) (L_want (by kernel_rfl) (L_arith x.1 1 (x.1 - 1) rfl (by kernel_rfl) (by kernel_rfl) (wrap_i32 _ (by simp only [arithZ]; omega) (by simp only [arithZ]; omega)) (L_want (by kernel_rfl) (L_run (Value.agg #[(.int .i32 nx), (.int .i32 (x.1 - 1))]) (by kernel_rfl) (by kernel_rfl) (L_want (by kernel_rfl) ?_)))))))))))))
      have hpre : (gapsP pre) ++ [((nx, (x.1 - 1)) : Rg)] <+: (gapsG xs) := by first | exact gaps_pre hr hpri r1 (by omega) | exact gaps_last hr r1 (by omega)
      refine L_yieldR l [(Value.agg #[(.int .i32 nx), (.int .i32 (x.1 - 1))])] (by kernel_rfl) (by kernel_rfl) (hY K (gapsP pre) ((nx, (x.1 - 1)) : Rg) _ _ hJ hCJ ⟨o_capm, o_capmm, p_xs⟩ hK0 hKJ hpre) ?_
      have hkr := hk
      rintro e w24 (⟨rfl, hJ', hk, hk2, hN'⟩ | ⟨rfl, hJx, hk⟩)
      · refine ⟨true, rfl, ?_⟩
        replace o_x4 := (jv_x4.elim (fun h => hk2.same _ ⟨h, obj_lt o_x4⟩) (fun h => hk.same _ h)).trans o_x4
        clear hCJ hKJ
        replace o_x2 := (hk.same _ iv_x2).trans o_x2
        replace o_x3 := (hk.same _ iv_x3).trans o_x3
        replace o_cb15 := (hk.same _ iv_cb15).trans o_cb15
        replace hs := Nat.le_trans hs hk.size
        replace hK := Nat.le_trans hK hk.size
        replace hk := hkr.trans (hk.narrow hs_0)
        replace hJ := hJ'
        obtain ⟨o_capm, o_capmm, p_xs⟩ := hN'
        refine L_want (by kernel_rfl) (L_not true (by kernel_rfl) (L_pickT (by kernel_rfl) (L_nil (thenQ_normal (W_false (by kernel_rfl) (W_skip (thenQ_normal (W_region (L_run (.pointer (some ⟨b16, 1, none⟩)) (by kernel_rfl) (by kernel_rfl) (L_load b16 1 (.int .i32 x.2.1) (by kernel_rfl) (by kernel_rfl) (cell_obj o_x4 rfl) (L_arith x.2.1 1 (x.2.1 + 1) rfl (by kernel_rfl) (by kernel_rfl) (wrap_i32 _ (by simp only [arithZ]; omega) (by simp only [arithZ]; omega)) (L_store b7 0 (.int .i32 (x.2.1 + 1)) [(.int .i32 nx)] [(.int .i32 (x.2.1 + 1))] 21 (by kernel_rfl) (by kernel_rfl) rfl (by kernel_rfl) o_x3 (by simp) rfl ?_))))))))))))
        intro w25 hW26
        replace hk := hk.ch (Ch.of_wrote hW26) hK (fun k e h => nv_x3 (e ▸ h))
        have hCJ := Ch.refl (Iv w.heap.size K) w24
        have hKJ := hK
        replace hCJ := hCJ.trans2 (Ch.of_wrote hW26) (fun k e => .inr (e ▸ iv_x3))
        replace hK := Nat.le_trans hK (Nat.le_of_eq hW26.size.symm)
        replace hs := Nat.le_trans hs (Nat.le_of_eq hW26.size.symm)
        have n_o_capm := obj_wrote o_capm hW26 (obj_ne o_capm o_x3 (by simp))
        have n_o_capmm := obj_wrote o_capmm hW26 (obj_ne o_capmm o_x3 (by simp))
        have n_o_x2 := obj_wrote o_x2 hW26 (obj_ne o_x2 o_x3 (by simp))
        have n_o_cb15 := obj_wrote o_cb15 hW26 (obj_ne o_cb15 o_x3 (by simp))
        have n_o_x4 := obj_wrote o_x4 hW26 (obj_ne o_x4 o_x3 (by simp))
        have n_p_xs := Rd.ch in_p_xs (Nat.le_refl _) p_xs (Ch.of_wrote hW26) (fun k e => e ▸ g_x3)
        replace o_capm := n_o_capm; clear n_o_capm
        replace o_capmm := n_o_capmm; clear n_o_capmm
        replace o_x2 := n_o_x2; clear n_o_x2
        replace o_cb15 := n_o_cb15; clear n_o_cb15
        replace o_x4 := n_o_x4; clear n_o_x4
        replace p_xs := n_p_xs; clear n_p_xs
        replace o_x3 := hW26.here
        refine L_nil (blkQ_normal ?_)
        replace hJ := hJs _ _ _ _ hJ hCJ
        clear hCJ
        have eJ : ((gapsP pre) ++ [((nx, (x.1 - 1)) : Rg)]) = (gapsP (pre ++ [x])) := by first | exact gaps_go r1 (by omega) | exact gaps_no r1 (by omega)
        rw [eJ] at hJ
        refine round_normal hk ⟨o_cb15, o_capmm, p_xs⟩ ⟨(x.2.1 + 1), o_capm, o_capmm, o_x2, o_x3, o_cb15, p_xs, hlt, hK, hJ, ?_⟩
        · exact (next_snoc pre x).symm
      · refine ⟨false, rfl, ?_⟩
        clear hCJ hKJ
        replace o_x2 := (hk.same _ iv_x2).trans o_x2
        replace o_x3 := (hk.same _ iv_x3).trans o_x3
        replace o_cb15 := (hk.same _ iv_cb15).trans o_cb15
        replace hs := Nat.le_trans hs hk.size
        replace hK := Nat.le_trans hK hk.size
        replace hk := hkr.trans (hk.narrow hs_0)
        refine L_want (by kernel_rfl) (L_not false (by kernel_rfl) (L_pickT (by kernel_rfl) (L_nil (thenQ_normal (W_true (by kernel_rfl) (W_ret (thenQ_ret (blkQ_ret ?_))))))))
        refine round_ret hk ⟨rfl, hlt, _, _, hpre, hJx⟩
    · intro h27
      replace h27 : x.1 ≤ nx := by omega
      refine L_mv (L_skip (by kernel_rfl) (L_skip (by kernel_rfl) (L_skip (by kernel_rfl) (L_skip (by kernel_rfl) (L_skip (by kernel_rfl) (L_skip (by kernel_rfl) (L_skip (by kernel_rfl) (L_skip (by kernel_rfl) (L_pickF (by kernel_rfl) (L_nil (thenQ_normal (W_false (by kernel_rfl) (W_skip (thenQ_normal (W_region (L_run (.pointer (some ⟨b16, 1, none⟩)) (by kernel_rfl) (by kernel_rfl) (L_load b16 1 (.int .i32 x.2.1) (by kernel_rfl) (by kernel_rfl) (cell_obj o_x4 rfl) (L_arith x.2.1 1 (x.2.1 + 1) rfl (by kernel_rfl) (by kernel_rfl) (wrap_i32 _ (by simp only [arithZ]; omega) (by simp only [arithZ]; omega)) (L_store b7 0 (.int .i32 (x.2.1 + 1)) [(.int .i32 nx)] [(.int .i32 (x.2.1 + 1))] 21 (by kernel_rfl) (by kernel_rfl) rfl (by kernel_rfl) o_x3 (by simp) rfl ?_)))))))))))))))))))
      intro w28 hW29
      replace hk := hk.ch (Ch.of_wrote hW29) hK (fun k e h => nv_x3 (e ▸ h))
      replace hCJ := hCJ.trans2 (Ch.of_wrote hW29) (fun k e => .inr (e ▸ iv_x3))
      replace hK := Nat.le_trans hK (Nat.le_of_eq hW29.size.symm)
      replace hs := Nat.le_trans hs (Nat.le_of_eq hW29.size.symm)
      have n_o_capm := obj_wrote o_capm hW29 (obj_ne o_capm o_x3 (by simp))
      have n_o_capmm := obj_wrote o_capmm hW29 (obj_ne o_capmm o_x3 (by simp))
      have n_o_x2 := obj_wrote o_x2 hW29 (obj_ne o_x2 o_x3 (by simp))
      have n_o_cb15 := obj_wrote o_cb15 hW29 (obj_ne o_cb15 o_x3 (by simp))
      have n_o_x4 := obj_wrote o_x4 hW29 (obj_ne o_x4 o_x3 (by simp))
      have n_p_xs := Rd.ch in_p_xs (Nat.le_refl _) p_xs (Ch.of_wrote hW29) (fun k e => e ▸ g_x3)
      replace o_capm := n_o_capm; clear n_o_capm
      replace o_capmm := n_o_capmm; clear n_o_capmm
      replace o_x2 := n_o_x2; clear n_o_x2
      replace o_cb15 := n_o_cb15; clear n_o_cb15
      replace o_x4 := n_o_x4; clear n_o_x4
      replace p_xs := n_p_xs; clear n_p_xs
      replace o_x3 := hW29.here
      refine L_nil (blkQ_normal ?_)
      replace hJ := hJs _ _ _ _ hJ hCJ
      clear hCJ
      have eJ : (gapsP pre) = (gapsP (pre ++ [x])) := by first | exact gaps_go r1 (by omega) | exact gaps_no r1 (by omega)
      rw [eJ] at hJ
      refine round_normal hk ⟨o_cb15, o_capmm, p_xs⟩ ⟨(x.2.1 + 1), o_capm, o_capmm, o_x2, o_x3, o_cb15, p_xs, hlt, hK, hJ, ?_⟩
      · exact (next_snoc pre x).symm
  · intro K A hi hsz o_D0
    obtain ⟨nx, o_capm, o_capmm, o_x2, o_x3, o_cb15, p_xs, hlt, hK, hJ, r1⟩ := hi
    have hK0 : w.heap.size ≤ K := by omega
    have iv_x2 : Iv w.heap.size K b1 := ⟨g_x2, by have := lt_x2_0; omega⟩
    have iv_x3 : Iv w.heap.size K b7 := ⟨g_x3, by have := lt_x3_0; omega⟩
    have iv_cb15 : Iv w.heap.size K cb15 := ⟨g_cb15, by have := lt_cb15_0; omega⟩
    have ne_capm_D0 : bx_m ≠ w12.heap.size := Nat.ne_of_lt lt_capm_0
    have ne_D0_capm := ne_capm_D0.symm
    have ne_capmm_D0 : b_m ≠ w12.heap.size := Nat.ne_of_lt lt_capmm_0
    have ne_D0_capmm := ne_capmm_D0.symm
    have ne_x2_D0 : b1 ≠ w12.heap.size := Nat.ne_of_lt lt_x2_0
    have ne_D0_x2 := ne_x2_D0.symm
    have ne_x3_D0 : b7 ≠ w12.heap.size := Nat.ne_of_lt lt_x3_0
    have ne_D0_x3 := ne_x3_D0.symm
    have ne_cb15_D0 : cb15 ≠ w12.heap.size := Nat.ne_of_lt lt_cb15_0
    have ne_D0_cb15 := ne_cb15_D0.symm
    have iv_D0 : Iv w.heap.size K (w12.heap.size) := ⟨hs_0, hlt⟩
    have hs : w.heap.size ≤ A.heap.size := by omega
    refine blkQ_normal (thenQ_normal (W_seq (W_region (L_load b7 0 (.int .i32 nx) (by kernel_rfl) (by kernel_rfl) (cell_obj o_x3 rfl) (L_cmp .i32 nx 1114111 (nx ≤ 1114111) rfl (cmp_le nx 1114111) (by kernel_rfl) (by kernel_rfl) ?_ ?_)))))
    · intro h30
      replace h30 : nx ≤ 1114111 := by omega
      refine L_nil (thenQ_normal (W_true (by kernel_rfl) (W_region (L_load b1 0 (.func (.yield l) #[] #[]) (by kernel_rfl) (by kernel_rfl) (cell_obj o_x2 rfl) (L_load b7 0 (.int .i32 nx) (by kernel_rfl) (by kernel_rfl) (cell_obj o_x3 rfl) (L_run (Value.agg #[(.int .i32 nx), (.int .i32 1114111)]) (by kernel_rfl) (by kernel_rfl) ?_))))))
      have hCJ := Ch.refl (Iv w.heap.size K) A
      have hKJ := hK
      have hpre : (gapsP xs) ++ [((nx, 1114111) : Rg)] <+: (gapsG xs) := by first | exact gaps_pre hr hpri r1 (by omega) | exact gaps_last hr r1 (by omega)
      refine L_yieldR l [(Value.agg #[(.int .i32 nx), (.int .i32 1114111)])] (by kernel_rfl) (by kernel_rfl) (hY K (gapsP xs) ((nx, 1114111) : Rg) _ _ hJ hCJ ⟨o_capm, o_capmm, p_xs⟩ hK0 hKJ hpre) ?_
      rintro e w31 (⟨rfl, hJ', hk, hk2, hN'⟩ | ⟨rfl, hJx, hk⟩)
      · refine ⟨true, rfl, ?_⟩
        clear hCJ hKJ
        replace o_x2 := (hk.same _ iv_x2).trans o_x2
        replace o_x3 := (hk.same _ iv_x3).trans o_x3
        replace o_cb15 := (hk.same _ iv_cb15).trans o_cb15
        replace o_D0 := (hk.same _ iv_D0).trans o_D0
        replace hs := Nat.le_trans hs hk.size
        replace hK := Nat.le_trans hK hk.size
        replace hJ := hJ'
        obtain ⟨o_capm, o_capmm, p_xs⟩ := hN'
        refine L_nil (end_normalM (ds := [⟨.collected w12.heap.size, #[]⟩]) (by kernel_rfl) (Lv_mark o_D0 ?_))
        intro w32 hW33
        have hCJ := Ch.refl (Iv w.heap.size K) w31
        have hKJ := hK
        replace hCJ := hCJ.trans2 (Ch.of_wrote hW33) (fun k e => .inr (e ▸ iv_D0))
        replace hK := Nat.le_trans hK (Nat.le_of_eq hW33.size.symm)
        replace hs := Nat.le_trans hs (Nat.le_of_eq hW33.size.symm)
        have n_o_capm := obj_wrote o_capm hW33 (obj_ne o_capm o_D0 (by simp))
        have n_o_capmm := obj_wrote o_capmm hW33 (obj_ne o_capmm o_D0 (by simp))
        have n_o_x2 := obj_wrote o_x2 hW33 (obj_ne o_x2 o_D0 (by simp))
        have n_o_x3 := obj_wrote o_x3 hW33 (obj_ne o_x3 o_D0 (by simp))
        have n_o_cb15 := obj_wrote o_cb15 hW33 (obj_ne o_cb15 o_D0 (by simp))
        have n_p_xs := Rd.ch in_p_xs (Nat.le_refl _) p_xs (Ch.of_wrote hW33) (fun k e => e ▸ hs_0)
        replace o_capm := n_o_capm; clear n_o_capm
        replace o_capmm := n_o_capmm; clear n_o_capmm
        replace o_x2 := n_o_x2; clear n_o_x2
        replace o_x3 := n_o_x3; clear n_o_x3
        replace o_cb15 := n_o_cb15; clear n_o_cb15
        replace p_xs := n_p_xs; clear n_p_xs
        replace o_D0 := hW33.here
        refine Lv_nil [] [] rfl trivial ?_
        replace hJ := hJs _ _ _ _ hJ hCJ
        clear hCJ
        have epre : ((gapsP xs) ++ [((nx, 1114111) : Rg)]) = (gapsG xs) := by first | exact gaps_done r1 (by omega) | exact gaps_none r1 (by omega)
        rw [epre] at hJ
        exact ⟨hs, Or.inl ⟨K, hJ⟩⟩
      · refine ⟨false, rfl, ?_⟩
        clear hCJ hKJ
        replace o_x2 := (hk.same _ iv_x2).trans o_x2
        replace o_x3 := (hk.same _ iv_x3).trans o_x3
        replace o_cb15 := (hk.same _ iv_cb15).trans o_cb15
        replace o_D0 := (hk.same _ iv_D0).trans o_D0
        replace hs := Nat.le_trans hs hk.size
        replace hK := Nat.le_trans hK hk.size
        refine L_nil (end_normalM (ds := [⟨.collected w12.heap.size, #[]⟩]) (by kernel_rfl) (Lv_mark o_D0 ?_))
        intro w34 hW35
        replace hJx := hJxs _ _ _ _ hJx ((Ch.of_wrote hW35).mono (fun k e => e ▸ iv_D0))
        replace hs := Nat.le_trans hs (Nat.le_of_eq hW35.size.symm)
        have n_o_x2 := obj_wrote o_x2 hW35 (obj_ne o_x2 o_D0 (by simp))
        have n_o_x3 := obj_wrote o_x3 hW35 (obj_ne o_x3 o_D0 (by simp))
        have n_o_cb15 := obj_wrote o_cb15 hW35 (obj_ne o_cb15 o_D0 (by simp))
        replace o_x2 := n_o_x2; clear n_o_x2
        replace o_x3 := n_o_x3; clear n_o_x3
        replace o_cb15 := n_o_cb15; clear n_o_cb15
        replace o_D0 := hW35.here
        refine Lv_nil [] [] rfl trivial ?_
        exact ⟨hs, Or.inr ⟨K, _, _, hpre, hJx⟩⟩
    · intro h36
      replace h36 : 1114111 < nx := by omega
      refine L_nil (thenQ_normal (W_false (by kernel_rfl) (W_skip (end_normalM (ds := [⟨.collected w12.heap.size, #[]⟩]) (by kernel_rfl) (Lv_mark o_D0 ?_)))))
      intro w37 hW38
      have hCJ := Ch.refl (Iv w.heap.size K) A
      have hKJ := hK
      replace hCJ := hCJ.trans2 (Ch.of_wrote hW38) (fun k e => .inr (e ▸ iv_D0))
      replace hK := Nat.le_trans hK (Nat.le_of_eq hW38.size.symm)
      replace hs := Nat.le_trans hs (Nat.le_of_eq hW38.size.symm)
      have n_o_capm := obj_wrote o_capm hW38 (obj_ne o_capm o_D0 (by simp))
      have n_o_capmm := obj_wrote o_capmm hW38 (obj_ne o_capmm o_D0 (by simp))
      have n_o_x2 := obj_wrote o_x2 hW38 (obj_ne o_x2 o_D0 (by simp))
      have n_o_x3 := obj_wrote o_x3 hW38 (obj_ne o_x3 o_D0 (by simp))
      have n_o_cb15 := obj_wrote o_cb15 hW38 (obj_ne o_cb15 o_D0 (by simp))
      have n_p_xs := Rd.ch in_p_xs (Nat.le_refl _) p_xs (Ch.of_wrote hW38) (fun k e => e ▸ hs_0)
      replace o_capm := n_o_capm; clear n_o_capm
      replace o_capmm := n_o_capmm; clear n_o_capmm
      replace o_x2 := n_o_x2; clear n_o_x2
      replace o_x3 := n_o_x3; clear n_o_x3
      replace o_cb15 := n_o_cb15; clear n_o_cb15
      replace p_xs := n_p_xs; clear n_p_xs
      replace o_D0 := hW38.here
      refine Lv_nil [] [] rfl trivial ?_
      replace hJ := hJs _ _ _ _ hJ hCJ
      clear hCJ
      have epre : (gapsP xs) = (gapsG xs) := by first | exact gaps_done r1 (by omega) | exact gaps_none r1 (by omega)
      rw [epre] at hJ
      exact ⟨hs, Or.inl ⟨K, hJ⟩⟩
  · rintro K c pre0 x0 A hpre0 ⟨rfl, hlt, gp, gx, hpre, hJx⟩ hsz o_D0
    have iv_D0 : Iv w.heap.size K (w12.heap.size) := ⟨hs_0, hlt⟩
    have hs : w.heap.size ≤ A.heap.size := by omega
    refine W_ret (blkQ_ret (thenQ_ret (end_retM (ds := [⟨.collected w12.heap.size, #[]⟩]) (by kernel_rfl) (Lv_mark o_D0 ?_))))
    intro w39 hW40
    replace hJx := hJxs _ _ _ _ hJx ((Ch.of_wrote hW40).mono (fun k e => e ▸ iv_D0))
    replace hs := Nat.le_trans hs (Nat.le_of_eq hW40.size.symm)
    replace o_D0 := hW40.here
    refine Lv_nil [] [] rfl trivial ?_
    exact ⟨hs, Or.inr ⟨K, _, _, hpre, hJx⟩⟩

set_option maxHeartbeats 4000000 in
set_option maxRecDepth 100000 in
theorem c_gaps_I (b_m : Nat) (v_xs : Value) (xs : List (Int × Int × Int)) (w : World) (o_m : w.heap[b_m]? = some (.cells [v_xs, (.bool true)].toArray 109 (0, 0))) (p_xs : Rd w encSpanI v_xs xs) :
    Calls Try.prog 60 #[(.pointer (some ⟨b_m, 0, none⟩))] w (Ret fun v w' => ∃ (cb0 : Nat), v = (.func (.func 102) #[] #[(.pointer (some ⟨cb0, 0, none⟩))]) ∧ w'.heap[cb0]? = some (.cells [(.pointer (some ⟨b_m, 0, none⟩))].toArray 41 (0, 0)) ∧ w.heap.size ≤ cb0 ∧ Below w.heap.size w w') := by
  refine enter (args := [(.pointer (some ⟨b_m, 0, none⟩))]) Try.func60 rfl (by kernel_rfl : _ = 4) (by kernel_rfl) ?_
  have hb := Below.refl w.heap.size w
  have hs : w.heap.size ≤ w.heap.size := Nat.le_refl _
  have in_p_xs := p_xs
  refine W_seq (W_region (L_new (fun b => .pointer (some ⟨b, 0, none⟩)) (.cells [(.pointer (some ⟨b_m, 0, none⟩))].toArray 41 (0, 0)) (by kernel_rfl) (by kernel_rfl) ?_))
  intro b1 w2 hN3
  have ne_m_x1 : b_m ≠ b1 := by have := (obj_lt o_m); have := hN3.num; omega
  have ne_x1_m := ne_m_x1.symm
  have g_x1 : w.heap.size ≤ b1 := by rw [hN3.num]; exact hs
  replace hb := hb.trans (hN3.below.mono hs)
  replace hs := Nat.le_trans hs (hN3.below.size)
  replace o_m := obj_below o_m hN3.below
  replace p_xs := p_xs.below hN3.below
  have o_x1 := hN3.here
  refine L_as (L_nil (thenQ_normal (W_seq (W_region (L_run (.func (.func 102) #[] #[(.pointer (some ⟨b1, 0, none⟩))]) (by kernel_rfl) (by kernel_rfl) (L_as (L_nil (thenQ_normal (W_ret ?_)))))))))
  refine end_ret [.tmp 2] [(.func (.func 102) #[] #[(.pointer (some ⟨b1, 0, none⟩))])] rfl rfl ⟨by kernel_rfl, trivial⟩ ?_
  exact ⟨b1, rfl, o_x1, g_x1, hb⟩

end Go.Proofs.Ythjgnnfonofgkaa
