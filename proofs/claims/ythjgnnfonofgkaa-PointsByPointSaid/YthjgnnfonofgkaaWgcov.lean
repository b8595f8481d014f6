/- Walks, written by my program walk.py out of the specification gcov.py: each theorem says what one function returns and that it leaves memory as it was. -/
import Derived.Test.YthjgnnfonofgkaaPCov
import Derived.Test.YthjgnnfonofgkaaWghex
import Derived.Test.YthjgnnfonofgkaaWgmI
import Derived.Test.YthjgnnfonofgkaaWgnI
import Derived.Test.YthjgnnfonofgkaaWggapI
import Derived.Test.YthjgnnfonofgkaaFKah
import Derived.Test.YthjgnnfonofgkaaProg
import Derived.Tactics2
import Derived.Test.YthjgnnfonofgkaaFKu
namespace Go.Proofs.Ythjgnnfonofgkaa
open Go Go.RowKit Go.FK
set_option linter.unusedVariables false
set_option linter.unusedSimpArgs false

theorem el22 : Elem Try.prog 22 29 2 8 := ⟨Try.underlying22, by kernel_rfl, rfl⟩
set_option maxHeartbeats 4000000 in
set_option maxRecDepth 100000 in
theorem c_covers (b_m : Nat) (v_xs : Value) (xs : List (Int × Int × Int)) (w : World) (o_m : w.heap[b_m]? = some (.cells [v_xs, (.bool true)].toArray 109 (0, 0))) (p_xs : Rd w encSpanI v_xs xs) (hr : RiseG 0 xs) :
    Calls Try.prog 19 #[(.pointer (some ⟨b_m, 0, none⟩))] w (Ret fun v w' => v = (.bool true) ∧ Below w.heap.size w w') := by
  refine enterM (args := [(.pointer (some ⟨b_m, 0, none⟩))]) Try.func19 rfl (by kernel_rfl : _ = 108) (by kernel_rfl) ?_
  have hb := Below.refl w.heap.size w
  have hs : w.heap.size ≤ w.heap.size := Nat.le_refl _
  have in_p_xs := p_xs
  have hln := hr.len
  have hgs := gaps_len xs
  have hcf := cov_fin hr
  have hsz := size_bd hr
  have hnb := next_bd hr
  refine W_seq (W_region (L_new (fun b => .pointer (some ⟨b, 0, none⟩)) (.cells [(.bool false)].toArray 4 (0, 0)) (by kernel_rfl) (by kernel_rfl) ?_))
  intro b1 w2 hN3
  have ne_m_x2 : b_m ≠ b1 := by have := (obj_lt o_m); have := hN3.num; omega
  have ne_x2_m := ne_m_x2.symm
  have g_x2 : w.heap.size ≤ b1 := by rw [hN3.num]; exact hs
  replace hb := hb.trans (hN3.below.mono hs)
  replace hs := Nat.le_trans hs (hN3.below.size)
  replace o_m := obj_below o_m hN3.below
  replace p_xs := p_xs.below hN3.below
  have o_x2 := hN3.here
  refine L_nil (thenQ_normal (W_seq (W_region (L_new (fun b => .pointer (some ⟨b, 0, none⟩)) (.cells [(.int .i32 0)].toArray 21 (0, 0)) (by kernel_rfl) (by kernel_rfl) ?_))))
  intro b4 w5 hN6
  have ne_m_x3 : b_m ≠ b4 := by have := (obj_lt o_m); have := hN6.num; omega
  have ne_x3_m := ne_m_x3.symm
  have ne_x2_x3 : b1 ≠ b4 := by have := (obj_lt o_x2); have := hN6.num; omega
  have ne_x3_x2 := ne_x2_x3.symm
  have g_x3 : w.heap.size ≤ b4 := by rw [hN6.num]; exact hs
  replace hb := hb.trans (hN6.below.mono hs)
  replace hs := Nat.le_trans hs (hN6.below.size)
  replace o_m := obj_below o_m hN6.below
  replace o_x2 := obj_below o_x2 hN6.below
  replace p_xs := p_xs.below hN6.below
  have o_x3 := hN6.here
  refine L_store b4 0 (.int .i32 0) [(.int .i32 0)] [(.int .i32 0)] 21 (by kernel_rfl) (by kernel_rfl) rfl (by kernel_rfl) o_x3 (by simp) rfl ?_
  intro w7 hW8
  replace hb := hb.trans (hW8.below g_x3)
  replace hs := Nat.le_trans hs (Nat.le_of_eq hW8.size.symm)
  have n_o_m := obj_wrote o_m hW8 (obj_ne o_m o_x3 (by simp))
  have n_o_x2 := obj_wrote o_x2 hW8 (obj_ne o_x2 o_x3 (by simp))
  have n_p_xs := in_p_xs.below hb
  replace o_m := n_o_m; clear n_o_m
  replace o_x2 := n_o_x2; clear n_o_x2
  replace p_xs := n_p_xs; clear n_p_xs
  replace o_x3 := hW8.here
  refine L_nil (thenQ_normal (W_seq (W_region (L_new (fun b => .pointer (some ⟨b, 0, none⟩)) (.cells [(.int .i64 0)].toArray 3 (0, 0)) (by kernel_rfl) (by kernel_rfl) ?_))))
  intro b9 w10 hN11
  have ne_m_x4 : b_m ≠ b9 := by have := (obj_lt o_m); have := hN11.num; omega
  have ne_x4_m := ne_m_x4.symm
  have ne_x2_x4 : b1 ≠ b9 := by have := (obj_lt o_x2); have := hN11.num; omega
  have ne_x4_x2 := ne_x2_x4.symm
  have ne_x3_x4 : b4 ≠ b9 := by have := (obj_lt o_x3); have := hN11.num; omega
  have ne_x4_x3 := ne_x3_x4.symm
  have g_x4 : w.heap.size ≤ b9 := by rw [hN11.num]; exact hs
  replace hb := hb.trans (hN11.below.mono hs)
  replace hs := Nat.le_trans hs (hN11.below.size)
  replace o_m := obj_below o_m hN11.below
  replace o_x2 := obj_below o_x2 hN11.below
  replace o_x3 := obj_below o_x3 hN11.below
  replace p_xs := p_xs.below hN11.below
  have o_x4 := hN11.here
  refine L_store b9 0 (.int .i64 0) [(.int .i64 0)] [(.int .i64 0)] 3 (by kernel_rfl) (by kernel_rfl) rfl (by kernel_rfl) o_x4 (by simp) rfl ?_
  intro w12 hW13
  replace hb := hb.trans (hW13.below g_x4)
  replace hs := Nat.le_trans hs (Nat.le_of_eq hW13.size.symm)
  have n_o_m := obj_wrote o_m hW13 (obj_ne o_m o_x4 (by simp))
  have n_o_x2 := obj_wrote o_x2 hW13 (obj_ne o_x2 o_x4 (by simp))
  have n_o_x3 := obj_wrote o_x3 hW13 (obj_ne o_x3 o_x4 (by simp))
  have n_p_xs := in_p_xs.below hb
  replace o_m := n_o_m; clear n_o_m
  replace o_x2 := n_o_x2; clear n_o_x2
  replace o_x3 := n_o_x3; clear n_o_x3
  replace p_xs := n_p_xs; clear n_p_xs
  replace o_x4 := hW13.here
  refine L_nil (thenQ_normal (W_seq (W_region (L_new (fun b => .pointer (some ⟨b, 0, none⟩)) (.cells [(.slice none 0 0)].toArray 22 (0, 0)) (by kernel_rfl) (by kernel_rfl) ?_))))
  intro b14 w15 hN16
  have ne_m_x5 : b_m ≠ b14 := by have := (obj_lt o_m); have := hN16.num; omega
  have ne_x5_m := ne_m_x5.symm
  have ne_x2_x5 : b1 ≠ b14 := by have := (obj_lt o_x2); have := hN16.num; omega
  have ne_x5_x2 := ne_x2_x5.symm
  have ne_x3_x5 : b4 ≠ b14 := by have := (obj_lt o_x3); have := hN16.num; omega
  have ne_x5_x3 := ne_x3_x5.symm
  have ne_x4_x5 : b9 ≠ b14 := by have := (obj_lt o_x4); have := hN16.num; omega
  have ne_x5_x4 := ne_x4_x5.symm
  have g_x5 : w.heap.size ≤ b14 := by rw [hN16.num]; exact hs
  replace hb := hb.trans (hN16.below.mono hs)
  replace hs := Nat.le_trans hs (hN16.below.size)
  replace o_m := obj_below o_m hN16.below
  replace o_x2 := obj_below o_x2 hN16.below
  replace o_x3 := obj_below o_x3 hN16.below
  replace o_x4 := obj_below o_x4 hN16.below
  replace p_xs := p_xs.below hN16.below
  have o_x5 := hN16.here
  refine L_nil (thenQ_normal (W_seq (W_seq (W_region (L_mv (L_call 60 [(.pointer (some ⟨b_m, 0, none⟩))] (by kernel_rfl) (by kernel_rfl) (c_gaps_I b_m v_xs xs _ o_m p_xs) ?_))))))
  rintro _ w17 ⟨cb20, rfl, o_cb20, g_cb20, hB18⟩
  have ne_m_cb20 : b_m ≠ cb20 := by have := (obj_lt o_m); omega
  have ne_cb20_m := ne_m_cb20.symm
  have ne_x2_cb20 : b1 ≠ cb20 := by have := (obj_lt o_x2); omega
  have ne_cb20_x2 := ne_x2_cb20.symm
  have ne_x3_cb20 : b4 ≠ cb20 := by have := (obj_lt o_x3); omega
  have ne_cb20_x3 := ne_x3_cb20.symm
  have ne_x4_cb20 : b9 ≠ cb20 := by have := (obj_lt o_x4); omega
  have ne_cb20_x4 := ne_x4_cb20.symm
  have ne_x5_cb20 : b14 ≠ cb20 := by have := (obj_lt o_x5); omega
  have ne_cb20_x5 := ne_x5_cb20.symm
  replace g_cb20 := Nat.le_trans hs g_cb20
  replace hb := hb.trans (hB18.mono hs)
  replace hs := Nat.le_trans hs (hB18.size)
  replace o_m := obj_below o_m hB18
  replace o_x2 := obj_below o_x2 hB18
  replace o_x3 := obj_below o_x3 hB18
  replace o_x4 := obj_below o_x4 hB18
  replace o_x5 := obj_below o_x5 hB18
  replace p_xs := p_xs.below hB18
  refine L_nil (thenQ_normal (W_block ?_))
  have lt_m_0 : b_m < w17.heap.size := obj_lt o_m
  have lt_x2_0 : b1 < w17.heap.size := obj_lt o_x2
  have lt_x3_0 : b4 < w17.heap.size := obj_lt o_x3
  have lt_x4_0 : b9 < w17.heap.size := obj_lt o_x4
  have lt_x5_0 : b14 < w17.heap.size := obj_lt o_x5
  have lt_cb20_0 : cb20 < w17.heap.size := obj_lt o_cb20
  have hs_0 := hs
  have hb_0 := hb
  refine W_range2 102 [(.pointer (some ⟨cb20, 0, none⟩))] (gapsG xs) (by kernel_rfl) (fun _ _ => rfl) (it_gaps_I cb20 b_m v_xs xs (by omega) (by exact hr)) ⟨o_cb20, o_m, p_xs⟩ ((fun D A B h hc hd => ⟨obj_ch h.1 hc (fun h => Nat.not_lt.2 (hd _ h) lt_cb20_0), obj_ch h.2.1 hc (fun h => Nat.not_lt.2 (hd _ h) lt_m_0), Rd.ch p_xs (Nat.le_refl _) h.2.2 hc hd⟩)) (by intro x; rfl) (fun K pre A => ∃ (gp : List Rg) (v_x5_0 : Value), (A.heap[b_m]? = some (.cells [v_xs, (.bool true)].toArray 109 (0, 0))) ∧ (A.heap[b1]? = some (.cells [(.bool false)].toArray 4 (0, 0))) ∧ (A.heap[b4]? = some (.cells [(.int .i32 0)].toArray 21 (0, 0))) ∧ (A.heap[b9]? = some (.cells [(.int .i64 0)].toArray 3 (0, 0))) ∧ (A.heap[b14]? = some (.cells [v_x5_0].toArray 22 (0, 0))) ∧ (A.heap[cb20]? = some (.cells [(.pointer (some ⟨b_m, 0, none⟩))].toArray 41 (0, 0))) ∧ (Row A w.heap.size 29 2 encRg v_x5_0 gp) ∧ (∀ g, Value.ownBlock v_x5_0 = some g → ¬ Iv w17.heap.size K g) ∧ (Below w.heap.size w A) ∧ (gp = pre)) (fun K c pre A => False) ?_ ?_ ?_ ?_ ?_ ?_
  · intro A hA hltA
    exact ⟨[], (.slice none 0 0), obj_below o_m hA, obj_below o_x2 hA, obj_below o_x3 hA, obj_below o_x4 hA, obj_below o_x5 hA, obj_below o_cb20 hA, Row.nil _ _ _ _ _, nr_nil _ _, hb.trans (hA.mono hs), by rfl⟩
  · rintro K pre A B ⟨gp, v_x5_0, o_m, o_x2, o_x3, o_x4, o_x5, o_cb20, r_x5_0, nr_r_x5_0, hb, r1⟩ hc
    exact ⟨gp, v_x5_0, obj_ch o_m hc (fun h => Nat.not_lt.2 h.1 lt_m_0), obj_ch o_x2 hc (fun h => Nat.not_lt.2 h.1 lt_x2_0), obj_ch o_x3 hc (fun h => Nat.not_lt.2 h.1 lt_x3_0), obj_ch o_x4 hc (fun h => Nat.not_lt.2 h.1 lt_x4_0), obj_ch o_x5 hc (fun h => Nat.not_lt.2 h.1 lt_x5_0), obj_ch o_cb20 hc (fun h => Nat.not_lt.2 h.1 lt_cb20_0), r_x5_0.ch hc nr_r_x5_0, nr_r_x5_0, hc.below hb hb.size (fun k h => Nat.le_trans hs_0 h.1), r1⟩
  · intro K c _ A B h hc; exact h.elim
  · intro l K pre x A0 A hi hch hN hK0 hKA0 hpre
    obtain ⟨gp, v_x5_0, o_m, o_x2, o_x3, o_x4, o_x5, o_cb20, r_x5_0, nr_r_x5_0, hb, r1⟩ := hi
    have hK : K ≤ A.heap.size := Nat.le_trans hKA0 hch.size
    have hA0 : w17.heap.size ≤ A0.heap.size := Nat.le_trans hK0 hKA0
    have nrb_r_x5_0 := nr_since r_x5_0 A.heap.size
    have nvb_m : ¬ Iv A0.heap.size A.heap.size b_m := fun h => by have := h.1; have := lt_m_0; omega
    have nvb_x2 : ¬ Iv A0.heap.size A.heap.size b1 := fun h => by have := h.1; have := lt_x2_0; omega
    have nvb_x3 : ¬ Iv A0.heap.size A.heap.size b4 := fun h => by have := h.1; have := lt_x3_0; omega
    have nvb_x4 : ¬ Iv A0.heap.size A.heap.size b9 := fun h => by have := h.1; have := lt_x4_0; omega
    have nvb_x5 : ¬ Iv A0.heap.size A.heap.size b14 := fun h => by have := h.1; have := lt_x5_0; omega
    have nvb_cb20 : ¬ Iv A0.heap.size A.heap.size cb20 := fun h => by have := h.1; have := lt_cb20_0; omega
    replace o_m := obj_ch o_m hch (fun h => Nat.not_lt.2 h.1 lt_m_0)
    replace o_x2 := obj_ch o_x2 hch (fun h => Nat.not_lt.2 h.1 lt_x2_0)
    replace o_x3 := obj_ch o_x3 hch (fun h => Nat.not_lt.2 h.1 lt_x3_0)
    replace o_x4 := obj_ch o_x4 hch (fun h => Nat.not_lt.2 h.1 lt_x4_0)
    replace o_x5 := obj_ch o_x5 hch (fun h => Nat.not_lt.2 h.1 lt_x5_0)
    replace o_cb20 := obj_ch o_cb20 hch (fun h => Nat.not_lt.2 h.1 lt_cb20_0)
    replace r_x5_0 := r_x5_0.ch hch nr_r_x5_0
    replace hb := hch.below hb hb.size (fun k h => Nat.le_trans hs_0 h.1)
    have hkb := Kp.refl A0.heap.size A.heap.size A
    have hKb : A.heap.size ≤ A.heap.size := Nat.le_refl _
    have hs := hb.size
    have hk := Kp.refl (w17.heap.size) K A
    have nv_m : ¬ Iv (w17.heap.size) K b_m := fun h => Nat.not_lt.2 h.1 lt_m_0
    have nv_x2 : ¬ Iv (w17.heap.size) K b1 := fun h => Nat.not_lt.2 h.1 lt_x2_0
    have nv_x3 : ¬ Iv (w17.heap.size) K b4 := fun h => Nat.not_lt.2 h.1 lt_x3_0
    have nv_x4 : ¬ Iv (w17.heap.size) K b9 := fun h => Nat.not_lt.2 h.1 lt_x4_0
    have nv_x5 : ¬ Iv (w17.heap.size) K b14 := fun h => Nat.not_lt.2 h.1 lt_x5_0
    have nv_cb20 : ¬ Iv (w17.heap.size) K cb20 := fun h => Nat.not_lt.2 h.1 lt_cb20_0
    have p_xs := in_p_xs.below hb
    replace o_cb20 := hN.1
    replace o_m := hN.2.1
    have hx3 := tk_lt hpre
    have hx4 : gp.length = pre.length := by rw [r1]
    refine W_region (L_new (fun b => .pointer (some ⟨b, 0, none⟩)) (.cells [(.int .i32 0), (.int .i32 0)].toArray 29 (0, 0)) (by kernel_rfl) (by kernel_rfl) ?_)
    intro b21 w22 hN23
    have ne_m_x6 : b_m ≠ b21 := by have := (obj_lt o_m); have := hN23.num; omega
    have ne_x6_m := ne_m_x6.symm
    have ne_x2_x6 : b1 ≠ b21 := by have := (obj_lt o_x2); have := hN23.num; omega
    have ne_x6_x2 := ne_x2_x6.symm
    have ne_x3_x6 : b4 ≠ b21 := by have := (obj_lt o_x3); have := hN23.num; omega
    have ne_x6_x3 := ne_x3_x6.symm
    have ne_x4_x6 : b9 ≠ b21 := by have := (obj_lt o_x4); have := hN23.num; omega
    have ne_x6_x4 := ne_x4_x6.symm
    have ne_x5_x6 : b14 ≠ b21 := by have := (obj_lt o_x5); have := hN23.num; omega
    have ne_x6_x5 := ne_x5_x6.symm
    have ne_cb20_x6 : cb20 ≠ b21 := by have := (obj_lt o_cb20); have := hN23.num; omega
    have ne_x6_cb20 := ne_cb20_x6.symm
    have g_x6 : w.heap.size ≤ b21 := by rw [hN23.num]; exact hs
    have nv_x6 : ¬ Iv w17.heap.size K b21 := fun h => by have := h.2; have := hN23.num; omega
    have nvb_x6 : ¬ Iv A0.heap.size A.heap.size b21 := fun h => by have := h.2; have := hN23.num; omega
    have nb_o_x6_r_x5_0 := r_x5_0.new_ne hN23
    replace hb := hb.trans (hN23.below.mono hs)
    replace hk := hk.ch (Ch.of_below hN23.below) hK (fun _ h => h.elim)
    replace hkb := hkb.ch (Ch.of_below hN23.below) hKb (fun _ h => h.elim)
    replace hK := Nat.le_trans hK (hN23.below.size)
    replace hKb := Nat.le_trans hKb (hN23.below.size)
    replace hs := Nat.le_trans hs (hN23.below.size)
    replace o_m := obj_below o_m hN23.below
    replace o_x2 := obj_below o_x2 hN23.below
    replace o_x3 := obj_below o_x3 hN23.below
    replace o_x4 := obj_below o_x4 hN23.below
    replace o_x5 := obj_below o_x5 hN23.below
    replace o_cb20 := obj_below o_cb20 hN23.below
    replace p_xs := p_xs.below hN23.below
    replace r_x5_0 := r_x5_0.below hN23.below
    have o_x6 := hN23.here
    refine L_storeA b21 0 [(.int .i32 x.1), (.int .i32 x.2)] [(.int .i32 0), (.int .i32 0)] [(.int .i32 x.1), (.int .i32 x.2)] 29 (by kernel_rfl) (by kernel_rfl) rfl (by kernel_rfl) o_x6 (by kernel_rfl) rfl ?_
    intro w24 hW25
    replace hb := hb.trans (hW25.below g_x6)
    replace hk := hk.ch (Ch.of_wrote hW25) hK (fun k e h => nv_x6 (e ▸ h))
    replace hkb := hkb.ch (Ch.of_wrote hW25) hKb (fun k e h => nvb_x6 (e ▸ h))
    replace hK := Nat.le_trans hK (Nat.le_of_eq hW25.size.symm)
    replace hKb := Nat.le_trans hKb (Nat.le_of_eq hW25.size.symm)
    replace hs := Nat.le_trans hs (Nat.le_of_eq hW25.size.symm)
    have n_o_m := obj_wrote o_m hW25 (obj_ne o_m o_x6 (by simp))
    have n_o_x2 := obj_wrote o_x2 hW25 (obj_ne o_x2 o_x6 (by simp))
    have n_o_x3 := obj_wrote o_x3 hW25 (obj_ne o_x3 o_x6 (by simp))
    have n_o_x4 := obj_wrote o_x4 hW25 (obj_ne o_x4 o_x6 (by simp))
    have n_o_x5 := obj_wrote o_x5 hW25 (obj_ne o_x5 o_x6 (by simp))
    have n_o_cb20 := obj_wrote o_cb20 hW25 (obj_ne o_cb20 o_x6 (by simp))
    have n_p_xs := in_p_xs.below hb
    have n_r_x5_0 := r_x5_0.wrote hW25 nb_o_x6_r_x5_0
    replace o_m := n_o_m; clear n_o_m
    replace o_x2 := n_o_x2; clear n_o_x2
    replace o_x3 := n_o_x3; clear n_o_x3
    replace o_x4 := n_o_x4; clear n_o_x4
    replace o_x5 := n_o_x5; clear n_o_x5
    replace o_cb20 := n_o_cb20; clear n_o_cb20
    replace p_xs := n_p_xs; clear n_p_xs
    replace r_x5_0 := n_r_x5_0; clear n_r_x5_0
    replace o_x6 := hW25.here
    refine L_nil ?_
    refine thenQ_normal ⟨hk, hkb, ?_⟩
    intro w26 hc27
    replace o_m := obj_ch o_m hc27 nv_m
    replace o_x2 := obj_ch o_x2 hc27 nv_x2
    replace o_x3 := obj_ch o_x3 hc27 nv_x3
    replace o_x4 := obj_ch o_x4 hc27 nv_x4
    replace o_x5 := obj_ch o_x5 hc27 nv_x5
    replace o_cb20 := obj_ch o_cb20 hc27 nv_cb20
    replace o_x6 := obj_ch o_x6 hc27 nv_x6
    replace r_x5_0 := r_x5_0.ch hc27 nr_r_x5_0
    replace hb := hc27.below hb hs (fun k h => Nat.le_trans hs_0 h.1)
    replace p_xs := in_p_xs.below hb
    replace hs := hb.size
    replace hK := Nat.le_trans hK hc27.size
    replace hKb := Nat.le_trans hKb hc27.size
    replace hk := Kp.refl (w17.heap.size) K w26
    replace hkb := Kp.refl A0.heap.size A.heap.size w26
    refine W_block (W_region (L_load b14 0 v_x5_0 (by kernel_rfl) (by kernel_rfl) (cell_obj o_x5 rfl) (L_loadA b21 0 [(.int .i32 x.1), (.int .i32 x.2)] (by kernel_rfl) (by kernel_rfl) (by kernel_rfl) (cells_at o_x6 0 (by kernel_rfl)) (L_app el22 w.heap.size v_x5_0 gp (x.1, x.2) hs r_x5_0 (by first | omega | (simp only [List.length_append, List.length_cons, List.length_nil]; omega)) (by kernel_rfl) rfl rfl (by kernel_rfl) rfl (by kernel_rfl) (by kernel_rfl) ?_))))
    intro v28 w29 hr30 hg31 how32
    have nr2 := nr_app how32 nr_r_x5_0 hK
    have nr2b := nr_app how32 nrb_r_x5_0 hKb
    have nc_o_x6 := ownb_app how32 nb_o_x6_r_x5_0 (obj_lt o_x6)
    replace hb := hb.grown hg31 hs (fun k hk => (World.ownsRow.lt r_x5_0 k hk).1)
    replace hk := hk.ch (Ch.of_grown hg31) hK (fun k e => nr_r_x5_0 k e)
    replace hkb := hkb.ch (Ch.of_grown hg31) hKb (fun k e => nrb_r_x5_0 k e)
    replace hK := Nat.le_trans hK (hg31.size)
    replace hKb := Nat.le_trans hKb (hg31.size)
    replace hs := Nat.le_trans hs (hg31.size)
    have n_o_m := obj_grown o_m hg31 (r_x5_0.ne o_m (by simp))
    have n_o_x2 := obj_grown o_x2 hg31 (r_x5_0.ne o_x2 (by simp))
    have n_o_x3 := obj_grown o_x3 hg31 (r_x5_0.ne o_x3 (by simp))
    have n_o_x4 := obj_grown o_x4 hg31 (r_x5_0.ne o_x4 (by simp))
    have n_o_x5 := obj_grown o_x5 hg31 (r_x5_0.ne o_x5 (by simp))
    have n_o_cb20 := obj_grown o_cb20 hg31 (r_x5_0.ne o_cb20 (by simp))
    have n_o_x6 := obj_grown o_x6 hg31 nb_o_x6_r_x5_0
    have n_p_xs := in_p_xs.below hb
    replace o_m := n_o_m; clear n_o_m
    replace o_x2 := n_o_x2; clear n_o_x2
    replace o_x3 := n_o_x3; clear n_o_x3
    replace o_x4 := n_o_x4; clear n_o_x4
    replace o_x5 := n_o_x5; clear n_o_x5
    replace o_cb20 := n_o_cb20; clear n_o_cb20
    replace o_x6 := n_o_x6; clear n_o_x6
    replace p_xs := n_p_xs; clear n_p_xs
    have nb_o_x6_r_x5_0 := nc_o_x6
    replace r_x5_0 := hr30
    have nr_r_x5_0 := nr2; clear nr2
    have nrb_r_x5_0 := nr2b; clear nr2b
    refine L_store b14 0 v28 [v_x5_0] [v28] 22 (by kernel_rfl) (by kernel_rfl) r_x5_0.one (by kernel_rfl) o_x5 (by simp) rfl ?_
    intro w33 hW34
    replace hb := hb.trans (hW34.below g_x5)
    replace hk := hk.ch (Ch.of_wrote hW34) hK (fun k e h => nv_x5 (e ▸ h))
    replace hkb := hkb.ch (Ch.of_wrote hW34) hKb (fun k e h => nvb_x5 (e ▸ h))
    replace hK := Nat.le_trans hK (Nat.le_of_eq hW34.size.symm)
    replace hKb := Nat.le_trans hKb (Nat.le_of_eq hW34.size.symm)
    replace hs := Nat.le_trans hs (Nat.le_of_eq hW34.size.symm)
    have n_o_m := obj_wrote o_m hW34 (obj_ne o_m o_x5 (by simp))
    have n_o_x2 := obj_wrote o_x2 hW34 (obj_ne o_x2 o_x5 (by simp))
    have n_o_x3 := obj_wrote o_x3 hW34 (obj_ne o_x3 o_x5 (by simp))
    have n_o_x4 := obj_wrote o_x4 hW34 (obj_ne o_x4 o_x5 (by simp))
    have n_o_cb20 := obj_wrote o_cb20 hW34 (obj_ne o_cb20 o_x5 (by simp))
    have n_o_x6 := obj_wrote o_x6 hW34 (obj_ne o_x6 o_x5 (by simp))
    have n_p_xs := in_p_xs.below hb
    have n_r_x5_0 := r_x5_0.wrote hW34 (r_x5_0.ne o_x5 (by simp))
    replace o_m := n_o_m; clear n_o_m
    replace o_x2 := n_o_x2; clear n_o_x2
    replace o_x3 := n_o_x3; clear n_o_x3
    replace o_x4 := n_o_x4; clear n_o_x4
    replace o_cb20 := n_o_cb20; clear n_o_cb20
    replace o_x6 := n_o_x6; clear n_o_x6
    replace p_xs := n_p_xs; clear n_p_xs
    replace r_x5_0 := n_r_x5_0; clear n_r_x5_0
    replace o_x5 := hW34.here
    refine L_nil (blkQ_normal ?_)
    refine round2_normal hk hkb ⟨o_cb20, o_m, p_xs⟩ ⟨(gp ++ [(x.1, x.2)]), v28, o_m, o_x2, o_x3, o_x4, o_x5, o_cb20, r_x5_0, nr_r_x5_0, hb, ?_⟩
    · first | (rw [r1]; done) | (rw [r1]; rfl)
  · intro K A hi hsz o_D0
    obtain ⟨gp, v_x5_0, o_m, o_x2, o_x3, o_x4, o_x5, o_cb20, r_x5_0, nr_r_x5_0, hb, r1⟩ := hi
    have p_xs := in_p_xs.below hb
    have ne_m_D0 : b_m ≠ w17.heap.size := Nat.ne_of_lt lt_m_0
    have ne_D0_m := ne_m_D0.symm
    have ne_x2_D0 : b1 ≠ w17.heap.size := Nat.ne_of_lt lt_x2_0
    have ne_D0_x2 := ne_x2_D0.symm
    have ne_x3_D0 : b4 ≠ w17.heap.size := Nat.ne_of_lt lt_x3_0
    have ne_D0_x3 := ne_x3_D0.symm
    have ne_x4_D0 : b9 ≠ w17.heap.size := Nat.ne_of_lt lt_x4_0
    have ne_D0_x4 := ne_x4_D0.symm
    have ne_x5_D0 : b14 ≠ w17.heap.size := Nat.ne_of_lt lt_x5_0
    have ne_D0_x5 := ne_x5_D0.symm
    have ne_cb20_D0 : cb20 ≠ w17.heap.size := Nat.ne_of_lt lt_cb20_0
    have ne_D0_cb20 := ne_cb20_D0.symm
    have hs : w.heap.size ≤ _ := hb.size
    refine blkQ_normal (thenQ_normal (W_seq (W_region (L_new (fun b => .pointer (some ⟨b, 0, none⟩)) (.cells [(.int .i64 0)].toArray 3 (0, 0)) (by kernel_rfl) (by kernel_rfl) ?_))))
    intro b35 w36 hN37
    have ne_m_x7 : b_m ≠ b35 := by have := (obj_lt o_m); have := hN37.num; omega
    have ne_x7_m := ne_m_x7.symm
    have ne_x2_x7 : b1 ≠ b35 := by have := (obj_lt o_x2); have := hN37.num; omega
    have ne_x7_x2 := ne_x2_x7.symm
    have ne_x3_x7 : b4 ≠ b35 := by have := (obj_lt o_x3); have := hN37.num; omega
    have ne_x7_x3 := ne_x3_x7.symm
    have ne_x4_x7 : b9 ≠ b35 := by have := (obj_lt o_x4); have := hN37.num; omega
    have ne_x7_x4 := ne_x4_x7.symm
    have ne_x5_x7 : b14 ≠ b35 := by have := (obj_lt o_x5); have := hN37.num; omega
    have ne_x7_x5 := ne_x5_x7.symm
    have ne_cb20_x7 : cb20 ≠ b35 := by have := (obj_lt o_cb20); have := hN37.num; omega
    have ne_x7_cb20 := ne_cb20_x7.symm
    have ne_D0_x7 : w17.heap.size ≠ b35 := by have := (obj_lt o_D0); have := hN37.num; omega
    have ne_x7_D0 := ne_D0_x7.symm
    have g_x7 : w.heap.size ≤ b35 := by rw [hN37.num]; exact hs
    replace hb := hb.trans (hN37.below.mono hs)
    replace hs := Nat.le_trans hs (hN37.below.size)
    replace o_m := obj_below o_m hN37.below
    replace o_x2 := obj_below o_x2 hN37.below
    replace o_x3 := obj_below o_x3 hN37.below
    replace o_x4 := obj_below o_x4 hN37.below
    replace o_x5 := obj_below o_x5 hN37.below
    replace o_cb20 := obj_below o_cb20 hN37.below
    replace o_D0 := obj_below o_D0 hN37.below
    replace p_xs := p_xs.below hN37.below
    replace r_x5_0 := r_x5_0.below hN37.below
    have o_x7 := hN37.here
    refine L_store b35 0 (.int .i64 0) [(.int .i64 0)] [(.int .i64 0)] 3 (by kernel_rfl) (by kernel_rfl) rfl (by kernel_rfl) o_x7 (by simp) rfl ?_
    intro w38 hW39
    replace hb := hb.trans (hW39.below g_x7)
    replace hs := Nat.le_trans hs (Nat.le_of_eq hW39.size.symm)
    have n_o_m := obj_wrote o_m hW39 (obj_ne o_m o_x7 (by simp))
    have n_o_x2 := obj_wrote o_x2 hW39 (obj_ne o_x2 o_x7 (by simp))
    have n_o_x3 := obj_wrote o_x3 hW39 (obj_ne o_x3 o_x7 (by simp))
    have n_o_x4 := obj_wrote o_x4 hW39 ne_x4_x7
    have n_o_x5 := obj_wrote o_x5 hW39 (obj_ne o_x5 o_x7 (by simp))
    have n_o_cb20 := obj_wrote o_cb20 hW39 (obj_ne o_cb20 o_x7 (by simp))
    have n_o_D0 := obj_wrote o_D0 hW39 (obj_ne o_D0 o_x7 (by simp))
    have n_p_xs := in_p_xs.below hb
    have n_r_x5_0 := r_x5_0.wrote hW39 (r_x5_0.ne o_x7 (by simp))
    replace o_m := n_o_m; clear n_o_m
    replace o_x2 := n_o_x2; clear n_o_x2
    replace o_x3 := n_o_x3; clear n_o_x3
    replace o_x4 := n_o_x4; clear n_o_x4
    replace o_x5 := n_o_x5; clear n_o_x5
    replace o_cb20 := n_o_cb20; clear n_o_cb20
    replace o_D0 := n_o_D0; clear n_o_D0
    replace p_xs := n_p_xs; clear n_p_xs
    replace r_x5_0 := n_r_x5_0; clear n_r_x5_0
    replace o_x7 := hW39.here
    refine L_nil (thenQ_normal (W_seq (W_seq (W_region (L_mv (L_call 61 [(.pointer (some ⟨b_m, 0, none⟩))] (by kernel_rfl) (by kernel_rfl) (c_all_I b_m v_xs xs _ o_m p_xs) ?_))))))
    rintro _ w40 ⟨cb43, rfl, o_cb43, g_cb43, hB41⟩
    have ne_m_cb43 : b_m ≠ cb43 := by have := (obj_lt o_m); omega
    have ne_cb43_m := ne_m_cb43.symm
    have ne_x2_cb43 : b1 ≠ cb43 := by have := (obj_lt o_x2); omega
    have ne_cb43_x2 := ne_x2_cb43.symm
    have ne_x3_cb43 : b4 ≠ cb43 := by have := (obj_lt o_x3); omega
    have ne_cb43_x3 := ne_x3_cb43.symm
    have ne_x4_cb43 : b9 ≠ cb43 := by have := (obj_lt o_x4); omega
    have ne_cb43_x4 := ne_x4_cb43.symm
    have ne_x5_cb43 : b14 ≠ cb43 := by have := (obj_lt o_x5); omega
    have ne_cb43_x5 := ne_x5_cb43.symm
    have ne_cb20_cb43 : cb20 ≠ cb43 := by have := (obj_lt o_cb20); omega
    have ne_cb43_cb20 := ne_cb20_cb43.symm
    have ne_D0_cb43 : w17.heap.size ≠ cb43 := by have := (obj_lt o_D0); omega
    have ne_cb43_D0 := ne_D0_cb43.symm
    have ne_x7_cb43 : b35 ≠ cb43 := by have := (obj_lt o_x7); omega
    have ne_cb43_x7 := ne_x7_cb43.symm
    replace g_cb43 := Nat.le_trans hs g_cb43
    replace hb := hb.trans (hB41.mono hs)
    replace hs := Nat.le_trans hs (hB41.size)
    replace o_m := obj_below o_m hB41
    replace o_x2 := obj_below o_x2 hB41
    replace o_x3 := obj_below o_x3 hB41
    replace o_x4 := obj_below o_x4 hB41
    replace o_x5 := obj_below o_x5 hB41
    replace o_cb20 := obj_below o_cb20 hB41
    replace o_D0 := obj_below o_D0 hB41
    replace o_x7 := obj_below o_x7 hB41
    replace p_xs := p_xs.below hB41
    replace r_x5_0 := r_x5_0.below hB41
    refine L_nil (thenQ_normal (W_block ?_))
    have lt_m_1 : b_m < w40.heap.size := obj_lt o_m
    have lt_x2_1 : b1 < w40.heap.size := obj_lt o_x2
    have lt_x3_1 : b4 < w40.heap.size := obj_lt o_x3
    have lt_x4_1 : b9 < w40.heap.size := obj_lt o_x4
    have lt_x5_1 : b14 < w40.heap.size := obj_lt o_x5
    have lt_cb20_1 : cb20 < w40.heap.size := obj_lt o_cb20
    have lt_D0_1 : w17.heap.size < w40.heap.size := obj_lt o_D0
    have lt_x7_1 : b35 < w40.heap.size := obj_lt o_x7
    have lt_cb43_1 : cb43 < w40.heap.size := obj_lt o_cb43
    have hs_1 := hs
    have hb_1 := hb
    refine W_range 103 [(.pointer (some ⟨cb43, 0, none⟩))] xs (by kernel_rfl) (fun _ _ => rfl) (it_all_I cb43 b_m v_xs xs (by omega)) ⟨o_cb43, o_m, p_xs⟩ ((fun D A B h hc hd => ⟨obj_ch h.1 hc (fun h => Nat.not_lt.2 (hd _ h) lt_cb43_1), obj_ch h.2.1 hc (fun h => Nat.not_lt.2 (hd _ h) lt_m_1), Rd.ch p_xs (Nat.le_refl _) h.2.2 hc hd⟩)) (by intro x; rfl) (fun K pre A => ∃ (at_ : Int) (kk : Nat) (nn : Int), (A.heap[b_m]? = some (.cells [v_xs, (.bool true)].toArray 109 (0, 0))) ∧ (A.heap[b1]? = some (.cells [(.bool false)].toArray 4 (0, 0))) ∧ (A.heap[b4]? = some (.cells [(.int .i32 at_)].toArray 21 (0, 0))) ∧ (A.heap[b9]? = some (.cells [(.int .i64 nn)].toArray 3 (0, 0))) ∧ (A.heap[b14]? = some (.cells [v_x5_0].toArray 22 (0, 0))) ∧ (A.heap[cb20]? = some (.cells [(.pointer (some ⟨b_m, 0, none⟩))].toArray 41 (0, 0))) ∧ (A.heap[w17.heap.size]? = some (.deferred (some []))) ∧ (A.heap[b35]? = some (.cells [(.int .i64 ((kk : Nat) : Int))].toArray 3 (0, 0))) ∧ (A.heap[cb43]? = some (.cells [(.pointer (some ⟨b_m, 0, none⟩))].toArray 41 (0, 0))) ∧ (Row A w.heap.size 29 2 encRg v_x5_0 gp) ∧ (∀ g, Value.ownBlock v_x5_0 = some g → ¬ Iv w40.heap.size K g) ∧ (Below w.heap.size w A) ∧ (at_ = nextP pre) ∧ (kk = (gapsP pre).length) ∧ (nn = sizeG pre)) (fun K c pre A => False) ?_ ?_ ?_ ?_ ?_ ?_
    · intro A hA
      exact ⟨0, 0, 0, obj_below o_m hA, obj_below o_x2 hA, obj_below o_x3 hA, obj_below o_x4 hA, obj_below o_x5 hA, obj_below o_cb20 hA, obj_below o_D0 hA, obj_below o_x7 hA, obj_below o_cb43 hA, r_x5_0.below hA, nr_old r_x5_0 _, hb.trans (hA.mono hs), by rfl, by rfl, by rfl⟩
    · rintro K pre A B ⟨at_, kk, nn, o_m, o_x2, o_x3, o_x4, o_x5, o_cb20, o_D0, o_x7, o_cb43, r_x5_0, nr_r_x5_0, hb, r3, r4, r5⟩ hc
      exact ⟨at_, kk, nn, obj_ch o_m hc (fun h => Nat.not_lt.2 h.1 lt_m_1), obj_ch o_x2 hc (fun h => Nat.not_lt.2 h.1 lt_x2_1), obj_ch o_x3 hc (fun h => Nat.not_lt.2 h.1 lt_x3_1), obj_ch o_x4 hc (fun h => Nat.not_lt.2 h.1 lt_x4_1), obj_ch o_x5 hc (fun h => Nat.not_lt.2 h.1 lt_x5_1), obj_ch o_cb20 hc (fun h => Nat.not_lt.2 h.1 lt_cb20_1), obj_ch o_D0 hc (fun h => Nat.not_lt.2 h.1 lt_D0_1), obj_ch o_x7 hc (fun h => Nat.not_lt.2 h.1 lt_x7_1), obj_ch o_cb43 hc (fun h => Nat.not_lt.2 h.1 lt_cb43_1), r_x5_0.ch hc nr_r_x5_0, nr_r_x5_0, hc.below hb hb.size (fun k h => Nat.le_trans hs_1 h.1), r3, r4, r5⟩
    · intro K c _ A B h hc; exact h.elim
    · intro l K pre x A hi hN hK0 hK hpre
      obtain ⟨at_, kk, nn, o_m, o_x2, o_x3, o_x4, o_x5, o_cb20, o_D0, o_x7, o_cb43, r_x5_0, nr_r_x5_0, hb, r3, r4, r5⟩ := hi
      have hs := hb.size
      have hk := Kp.refl (w40.heap.size) K A
      have nv_m : ¬ Iv (w40.heap.size) K b_m := fun h => Nat.not_lt.2 h.1 lt_m_1
      have nv_x2 : ¬ Iv (w40.heap.size) K b1 := fun h => Nat.not_lt.2 h.1 lt_x2_1
      have nv_x3 : ¬ Iv (w40.heap.size) K b4 := fun h => Nat.not_lt.2 h.1 lt_x3_1
      have nv_x4 : ¬ Iv (w40.heap.size) K b9 := fun h => Nat.not_lt.2 h.1 lt_x4_1
      have nv_x5 : ¬ Iv (w40.heap.size) K b14 := fun h => Nat.not_lt.2 h.1 lt_x5_1
      have nv_cb20 : ¬ Iv (w40.heap.size) K cb20 := fun h => Nat.not_lt.2 h.1 lt_cb20_1
      have nv_D0 : ¬ Iv (w40.heap.size) K w17.heap.size := fun h => Nat.not_lt.2 h.1 lt_D0_1
      have nv_x7 : ¬ Iv (w40.heap.size) K b35 := fun h => Nat.not_lt.2 h.1 lt_x7_1
      have nv_cb43 : ¬ Iv (w40.heap.size) K cb43 := fun h => Nat.not_lt.2 h.1 lt_cb43_1
      have p_xs := in_p_xs.below hb
      replace o_cb43 := hN.1
      replace o_m := hN.2.1
      have hx := hr.pre hpre
      have hnl := next_le hr hpre
      have hzp := size_bd (rise_pre hr hpre)
      have hgl : gp.length = (gapsG xs).length := by rw [r1]
      have hgm : (gapsP pre).length ≤ gp.length := by rw [r1]; obtain ⟨t, ht⟩ := hpre; rw [← ht, List.append_assoc]; exact (gaps_le pre _)
      refine W_region (L_new (fun b => .pointer (some ⟨b, 0, none⟩)) (.cells [(.int .i32 0), (.int .i32 0)].toArray 29 (0, 0)) (by kernel_rfl) (by kernel_rfl) ?_)
      intro b44 w45 hN46
      have ne_m_x8 : b_m ≠ b44 := by have := (obj_lt o_m); have := hN46.num; omega
      have ne_x8_m := ne_m_x8.symm
      have ne_x2_x8 : b1 ≠ b44 := by have := (obj_lt o_x2); have := hN46.num; omega
      have ne_x8_x2 := ne_x2_x8.symm
      have ne_x3_x8 : b4 ≠ b44 := by have := (obj_lt o_x3); have := hN46.num; omega
      have ne_x8_x3 := ne_x3_x8.symm
      have ne_x4_x8 : b9 ≠ b44 := by have := (obj_lt o_x4); have := hN46.num; omega
      have ne_x8_x4 := ne_x4_x8.symm
      have ne_x5_x8 : b14 ≠ b44 := by have := (obj_lt o_x5); have := hN46.num; omega
      have ne_x8_x5 := ne_x5_x8.symm
      have ne_cb20_x8 : cb20 ≠ b44 := by have := (obj_lt o_cb20); have := hN46.num; omega
      have ne_x8_cb20 := ne_cb20_x8.symm
      have ne_D0_x8 : w17.heap.size ≠ b44 := by have := (obj_lt o_D0); have := hN46.num; omega
      have ne_x8_D0 := ne_D0_x8.symm
      have ne_x7_x8 : b35 ≠ b44 := by have := (obj_lt o_x7); have := hN46.num; omega
      have ne_x8_x7 := ne_x7_x8.symm
      have ne_cb43_x8 : cb43 ≠ b44 := by have := (obj_lt o_cb43); have := hN46.num; omega
      have ne_x8_cb43 := ne_cb43_x8.symm
      have g_x8 : w.heap.size ≤ b44 := by rw [hN46.num]; exact hs
      have nv_x8 : ¬ Iv w40.heap.size K b44 := fun h => by have := h.2; have := hN46.num; omega
      have nb_o_x8_r_x5_0 := r_x5_0.new_ne hN46
      replace hb := hb.trans (hN46.below.mono hs)
      replace hk := hk.ch (Ch.of_below hN46.below) hK (fun _ h => h.elim)
      replace hK := Nat.le_trans hK (hN46.below.size)
      replace hs := Nat.le_trans hs (hN46.below.size)
      replace o_m := obj_below o_m hN46.below
      replace o_x2 := obj_below o_x2 hN46.below
      replace o_x3 := obj_below o_x3 hN46.below
      replace o_x4 := obj_below o_x4 hN46.below
      replace o_x5 := obj_below o_x5 hN46.below
      replace o_cb20 := obj_below o_cb20 hN46.below
      replace o_D0 := obj_below o_D0 hN46.below
      replace o_x7 := obj_below o_x7 hN46.below
      replace o_cb43 := obj_below o_cb43 hN46.below
      replace p_xs := p_xs.below hN46.below
      replace r_x5_0 := r_x5_0.below hN46.below
      have o_x8 := hN46.here
      refine L_storeA b44 0 [(.int .i32 x.1), (.int .i32 x.2.1)] [(.int .i32 0), (.int .i32 0)] [(.int .i32 x.1), (.int .i32 x.2.1)] 29 (by kernel_rfl) (by kernel_rfl) rfl (by kernel_rfl) o_x8 (by kernel_rfl) rfl ?_
      intro w47 hW48
      replace hb := hb.trans (hW48.below g_x8)
      replace hk := hk.ch (Ch.of_wrote hW48) hK (fun k e h => nv_x8 (e ▸ h))
      replace hK := Nat.le_trans hK (Nat.le_of_eq hW48.size.symm)
      replace hs := Nat.le_trans hs (Nat.le_of_eq hW48.size.symm)
      have n_o_m := obj_wrote o_m hW48 (obj_ne o_m o_x8 (by simp))
      have n_o_x2 := obj_wrote o_x2 hW48 (obj_ne o_x2 o_x8 (by simp))
      have n_o_x3 := obj_wrote o_x3 hW48 (obj_ne o_x3 o_x8 (by simp))
      have n_o_x4 := obj_wrote o_x4 hW48 (obj_ne o_x4 o_x8 (by simp))
      have n_o_x5 := obj_wrote o_x5 hW48 (obj_ne o_x5 o_x8 (by simp))
      have n_o_cb20 := obj_wrote o_cb20 hW48 (obj_ne o_cb20 o_x8 (by simp))
      have n_o_D0 := obj_wrote o_D0 hW48 (obj_ne o_D0 o_x8 (by simp))
      have n_o_x7 := obj_wrote o_x7 hW48 (obj_ne o_x7 o_x8 (by simp))
      have n_o_cb43 := obj_wrote o_cb43 hW48 (obj_ne o_cb43 o_x8 (by simp))
      have n_p_xs := in_p_xs.below hb
      have n_r_x5_0 := r_x5_0.wrote hW48 nb_o_x8_r_x5_0
      replace o_m := n_o_m; clear n_o_m
      replace o_x2 := n_o_x2; clear n_o_x2
      replace o_x3 := n_o_x3; clear n_o_x3
      replace o_x4 := n_o_x4; clear n_o_x4
      replace o_x5 := n_o_x5; clear n_o_x5
      replace o_cb20 := n_o_cb20; clear n_o_cb20
      replace o_D0 := n_o_D0; clear n_o_D0
      replace o_x7 := n_o_x7; clear n_o_x7
      replace o_cb43 := n_o_cb43; clear n_o_cb43
      replace p_xs := n_p_xs; clear n_p_xs
      replace r_x5_0 := n_r_x5_0; clear n_r_x5_0
      replace o_x8 := hW48.here
      refine L_nil ?_
      refine thenQ_normal ⟨hk, ?_⟩
      intro w49 hc50
      replace o_m := obj_ch o_m hc50 nv_m
      replace o_x2 := obj_ch o_x2 hc50 nv_x2
      replace o_x3 := obj_ch o_x3 hc50 nv_x3
      replace o_x4 := obj_ch o_x4 hc50 nv_x4
      replace o_x5 := obj_ch o_x5 hc50 nv_x5
      replace o_cb20 := obj_ch o_cb20 hc50 nv_cb20
      replace o_D0 := obj_ch o_D0 hc50 nv_D0
      replace o_x7 := obj_ch o_x7 hc50 nv_x7
      replace o_cb43 := obj_ch o_cb43 hc50 nv_cb43
      replace o_x8 := obj_ch o_x8 hc50 nv_x8
      replace r_x5_0 := r_x5_0.ch hc50 nr_r_x5_0
      replace hb := hc50.below hb hs (fun k h => Nat.le_trans hs_1 h.1)
      replace p_xs := in_p_xs.below hb
      replace hs := hb.size
      replace hK := Nat.le_trans hK hc50.size
      replace hk := Kp.refl (w40.heap.size) K w49
      refine W_block (W_seq (W_block ?_))
      refine W_loop (fun m s0 w0 => ∃ (bt : Int) (bk : Nat), (m = gp.length - bk) ∧ (s0.ds = []) ∧ (s0.f 0 = (.pointer (some ⟨b_m, 0, none⟩))) ∧ (s0.f 2 = (.pointer (some ⟨b1, 0, none⟩))) ∧ (s0.f 3 = (.pointer (some ⟨b4, 0, none⟩))) ∧ (s0.f 4 = (.pointer (some ⟨b9, 0, none⟩))) ∧ (s0.f 5 = (.pointer (some ⟨b14, 0, none⟩))) ∧ (s0.f 7 = (.pointer (some ⟨b35, 0, none⟩))) ∧ (s0.f 8 = (.pointer (some ⟨b44, 0, none⟩))) ∧ (Rd w0 encSpanI v_xs xs) ∧ (Row w0 w.heap.size 29 2 encRg v_x5_0 gp) ∧ (w0.heap[b_m]? = some (.cells [v_xs, (.bool true)].toArray 109 (0, 0))) ∧ (w0.heap[b1]? = some (.cells [(.bool false)].toArray 4 (0, 0))) ∧ (w0.heap[b4]? = some (.cells [(.int .i32 bt)].toArray 21 (0, 0))) ∧ (w0.heap[b9]? = some (.cells [(.int .i64 nn)].toArray 3 (0, 0))) ∧ (w0.heap[b14]? = some (.cells [v_x5_0].toArray 22 (0, 0))) ∧ (w0.heap[cb20]? = some (.cells [(.pointer (some ⟨b_m, 0, none⟩))].toArray 41 (0, 0))) ∧ (w0.heap[w17.heap.size]? = some (.deferred (some []))) ∧ (w0.heap[b35]? = some (.cells [(.int .i64 ((bk : Nat) : Int))].toArray 3 (0, 0))) ∧ (w0.heap[cb43]? = some (.cells [(.pointer (some ⟨b_m, 0, none⟩))].toArray 41 (0, 0))) ∧ (w0.heap[b44]? = some (.cells [(.int .i32 x.1), (.int .i32 x.2.1)].toArray 29 (0, 0))) ∧ (Below w.heap.size w w0) ∧ (w.heap.size ≤ w0.heap.size) ∧ (Kp (w40.heap.size) K w49 w0) ∧ (K ≤ w0.heap.size) ∧ (bk ≤ gp.length) ∧ (covI xs pre x bk bt)) _ ⟨at_, kk, rfl, by kernel_rfl, by kernel_rfl, by kernel_rfl, by kernel_rfl, by kernel_rfl, by kernel_rfl, by kernel_rfl, by kernel_rfl, p_xs, r_x5_0, o_m, o_x2, o_x3, o_x4, o_x5, o_cb20, o_D0, o_x7, o_cb43, o_x8, hb, hs, hk, hK, (by omega), (.inl ⟨r4, r3⟩)⟩ ?_
      rintro m51 s52 w53 ⟨bt, bk, hm, hds, f_0, f_2, f_3, f_4, f_5, f_7, f_8, p_xs, r_x5_0, o_m, o_x2, o_x3, o_x4, o_x5, o_cb20, o_D0, o_x7, o_cb43, o_x8, hb, hs, hk, hK, w1, w2⟩
      refine W_set 0 _ f_0 (W_set 2 _ f_2 (W_set 3 _ f_3 (W_set 4 _ f_4 (W_set 5 _ f_5 (W_set 7 _ f_7 (W_set 8 _ f_8 ?_))))))
      clear f_0 f_2 f_3 f_4 f_5 f_7 f_8
      refine W_seq (W_seq (W_draws 13 (by kernel_rfl) (by kernel_rfl) (by kernel_rfl) ?_))
      intro w54 hB55
      replace hb := hb.trans (hB55.mono hs)
      replace hk := hk.ch (Ch.of_below hB55) hK (fun _ h => h.elim)
      replace hK := Nat.le_trans hK (hB55.size)
      replace hs := Nat.le_trans hs (hB55.size)
      replace o_m := obj_below o_m hB55
      replace o_x2 := obj_below o_x2 hB55
      replace o_x3 := obj_below o_x3 hB55
      replace o_x4 := obj_below o_x4 hB55
      replace o_x5 := obj_below o_x5 hB55
      replace o_cb20 := obj_below o_cb20 hB55
      replace o_D0 := obj_below o_D0 hB55
      replace o_x7 := obj_below o_x7 hB55
      replace o_cb43 := obj_below o_cb43 hB55
      replace o_x8 := obj_below o_x8 hB55
      replace p_xs := p_xs.below hB55
      replace r_x5_0 := r_x5_0.below hB55
      refine I_quiet 0 (by kernel_rfl) (by kernel_rfl) (by kernel_rfl) (by kernel_rfl) (Lq_load b35 0 (.int .i64 ((bk : Nat) : Int)) (by kernel_rfl) (fun _ => by kernel_rfl) (cell_obj o_x7 rfl) (Lq_load b14 0 v_x5_0 (by kernel_rfl) (fun _ => by kernel_rfl) (cell_obj o_x5 rfl) (Lq_len 22 29 (gp).length v_x5_0 rfl Try.underlying22 (r_x5_0.rd).len (by kernel_rfl) (Lq_cmp .i64 ((bk : Nat) : Int) (((gp).length : Nat) : Int) (bk < (gp).length) rfl (cmpN_lt bk ((gp).length)) (by kernel_rfl) (by kernel_rfl) ?_ ?_))))
      · intro h56
        replace h56 : bk < (gp).length := by omega
        refine Lq_mv (Lq_want (by kernel_rfl) (Lq_load b14 0 v_x5_0 (by kernel_rfl) (fun _ => by kernel_rfl) (cell_obj o_x5 rfl) (Lq_want (by kernel_rfl) (Lq_load b35 0 (.int .i64 ((bk : Nat) : Int)) (by kernel_rfl) (fun _ => by kernel_rfl) (cell_obj o_x7 rfl) (Lq_want (by kernel_rfl) ?_)))))
        have hz := get_some gp bk (by omega); obtain ⟨x57, hx58⟩ := hz
        have hz := (r_x5_0.rd).at (k := 2) (fun _ => rfl) hx58
        obtain ⟨g59, off60, hl61, hc62⟩ := hz
        refine Lq_ixaddr (k := .i64) v_x5_0 bk _ g59 off60 el22 hl61 (by omega) (by kernel_rfl) (by kernel_rfl) (Lq_want (by kernel_rfl) (Lq_run (.pointer (some ⟨g59, (off60 + bk * 2), none⟩)) (fun _ => by kernel_rfl) (Lq_want (by kernel_rfl) (Lq_load g59 (off60 + bk * 2) (.int .i32 x57.1) (by kernel_rfl) (fun _ => by kernel_rfl) (hc62 0 _ rfl) (Lq_want (by kernel_rfl) (Lq_load b4 0 (.int .i32 bt) (by kernel_rfl) (fun _ => by kernel_rfl) (cell_obj o_x3 rfl) (Lq_want (by kernel_rfl) (Lq_cmp .i32 x57.1 bt (x57.1 = bt) rfl (cmp_eq x57.1 bt) (by kernel_rfl) (by kernel_rfl) ?_ ?_))))))))
        · intro h63
          replace h63 : x57.1 = bt := by omega
          have hcs := cov_step hr hpre w2 r1 (by assumption) h63
          refine Lq_pickT (by kernel_rfl) (Lq_nil ?_)
          intro w64 hB65
          replace hb := hb.trans (hB65.mono hs)
          replace hk := hk.ch (Ch.of_below hB65) hK (fun _ h => h.elim)
          replace hK := Nat.le_trans hK (hB65.size)
          replace hs := Nat.le_trans hs (hB65.size)
          replace o_m := obj_below o_m hB65
          replace o_x2 := obj_below o_x2 hB65
          replace o_x3 := obj_below o_x3 hB65
          replace o_x4 := obj_below o_x4 hB65
          replace o_x5 := obj_below o_x5 hB65
          replace o_cb20 := obj_below o_cb20 hB65
          replace o_D0 := obj_below o_D0 hB65
          replace o_x7 := obj_below o_x7 hB65
          replace o_cb43 := obj_below o_cb43 hB65
          replace o_x8 := obj_below o_x8 hB65
          replace p_xs := p_xs.below hB65
          replace r_x5_0 := r_x5_0.below hB65
          refine thenQ_normal (W_true (by kernel_rfl) (W_skip (thenQ_normal (W_block (W_seq (W_seq (W_draws 11 (by kernel_rfl) (by kernel_rfl) (by kernel_rfl) ?_)))))))
          intro w66 hB67
          replace hb := hb.trans (hB67.mono hs)
          replace hk := hk.ch (Ch.of_below hB67) hK (fun _ h => h.elim)
          replace hK := Nat.le_trans hK (hB67.size)
          replace hs := Nat.le_trans hs (hB67.size)
          replace o_m := obj_below o_m hB67
          replace o_x2 := obj_below o_x2 hB67
          replace o_x3 := obj_below o_x3 hB67
          replace o_x4 := obj_below o_x4 hB67
          replace o_x5 := obj_below o_x5 hB67
          replace o_cb20 := obj_below o_cb20 hB67
          replace o_D0 := obj_below o_D0 hB67
          replace o_x7 := obj_below o_x7 hB67
          replace o_cb43 := obj_below o_cb43 hB67
          replace o_x8 := obj_below o_x8 hB67
          replace p_xs := p_xs.below hB67
          replace r_x5_0 := r_x5_0.below hB67
          refine I_quiet 0 (by kernel_rfl) (by kernel_rfl) (by kernel_rfl) (by kernel_rfl) (Lq_load b14 0 v_x5_0 (by kernel_rfl) (fun _ => by kernel_rfl) (cell_obj o_x5 rfl) (Lq_load b35 0 (.int .i64 ((bk : Nat) : Int)) (by kernel_rfl) (fun _ => by kernel_rfl) (cell_obj o_x7 rfl) ?_))
          have hz := (r_x5_0.rd).at (k := 2) (fun _ => rfl) hx58
          obtain ⟨g70, off71, hl72, hc73⟩ := hz
          refine Lq_ixaddr (k := .i64) v_x5_0 bk _ g70 off71 el22 hl72 (by omega) (by kernel_rfl) (by kernel_rfl) (Lq_run (.pointer (some ⟨g70, ((off71 + bk * 2) + 1), none⟩)) (fun _ => by kernel_rfl) (Lq_load g70 ((off71 + bk * 2) + 1) (.int .i32 x57.2) (by kernel_rfl) (fun _ => by kernel_rfl) (hc73 1 _ rfl) (Lq_load b14 0 v_x5_0 (by kernel_rfl) (fun _ => by kernel_rfl) (cell_obj o_x5 rfl) (Lq_load b35 0 (.int .i64 ((bk : Nat) : Int)) (by kernel_rfl) (fun _ => by kernel_rfl) (cell_obj o_x7 rfl) ?_))))
          have hz := (r_x5_0.rd).at (k := 2) (fun _ => rfl) hx58
          obtain ⟨g76, off77, hl78, hc79⟩ := hz
          refine Lq_ixaddr (k := .i64) v_x5_0 bk _ g76 off77 el22 hl78 (by omega) (by kernel_rfl) (by kernel_rfl) (Lq_run (.pointer (some ⟨g76, (off77 + bk * 2), none⟩)) (fun _ => by kernel_rfl) (Lq_load g76 (off77 + bk * 2) (.int .i32 x57.1) (by kernel_rfl) (fun _ => by kernel_rfl) (hc79 0 _ rfl) (Lq_cmp .i32 x57.2 x57.1 (x57.2 < x57.1) rfl (cmp_lt x57.2 x57.1) (by kernel_rfl) (by kernel_rfl) ?_ ?_)))
          · intro h80
            replace h80 : x57.2 < x57.1 := by omega
            exfalso; omega
          · intro h81
            replace h81 : x57.1 ≤ x57.2 := by omega
            refine Lq_nil ?_
            intro w82 hB83
            replace hb := hb.trans (hB83.mono hs)
            replace hk := hk.ch (Ch.of_below hB83) hK (fun _ h => h.elim)
            replace hK := Nat.le_trans hK (hB83.size)
            replace hs := Nat.le_trans hs (hB83.size)
            replace o_m := obj_below o_m hB83
            replace o_x2 := obj_below o_x2 hB83
            replace o_x3 := obj_below o_x3 hB83
            replace o_x4 := obj_below o_x4 hB83
            replace o_x5 := obj_below o_x5 hB83
            replace o_cb20 := obj_below o_cb20 hB83
            replace o_D0 := obj_below o_D0 hB83
            replace o_x7 := obj_below o_x7 hB83
            replace o_cb43 := obj_below o_cb43 hB83
            replace o_x8 := obj_below o_x8 hB83
            replace p_xs := p_xs.below hB83
            replace r_x5_0 := r_x5_0.below hB83
            refine thenQ_normal (W_false (by kernel_rfl) (W_skip (thenQ_normal (W_seq (W_region (L_load b14 0 v_x5_0 (by kernel_rfl) (by kernel_rfl) (cell_obj o_x5 rfl) (L_load b35 0 (.int .i64 ((bk : Nat) : Int)) (by kernel_rfl) (by kernel_rfl) (cell_obj o_x7 rfl) ?_)))))))
            have hz := (r_x5_0.rd).at (k := 2) (fun _ => rfl) hx58
            obtain ⟨g86, off87, hl88, hc89⟩ := hz
            refine L_ixaddr (k := .i64) v_x5_0 bk _ g86 off87 el22 hl88 (by omega) (by kernel_rfl) (by kernel_rfl) (L_run (.pointer (some ⟨g86, ((off87 + bk * 2) + 1), none⟩)) (by kernel_rfl) (by kernel_rfl) (L_load g86 ((off87 + bk * 2) + 1) (.int .i32 x57.2) (by kernel_rfl) (by kernel_rfl) (hc89 1 _ rfl) (L_arith x57.2 1 (x57.2 + 1) rfl (by kernel_rfl) (by kernel_rfl) (wrap_i32 _ (by simp only [arithZ]; omega) (by simp only [arithZ]; omega)) (L_store b4 0 (.int .i32 (x57.2 + 1)) [(.int .i32 bt)] [(.int .i32 (x57.2 + 1))] 21 (by kernel_rfl) (by kernel_rfl) rfl (by kernel_rfl) o_x3 (by simp) rfl ?_))))
            intro w90 hW91
            replace hb := hb.trans (hW91.below g_x3)
            replace hk := hk.ch (Ch.of_wrote hW91) hK (fun k e h => nv_x3 (e ▸ h))
            replace hK := Nat.le_trans hK (Nat.le_of_eq hW91.size.symm)
            replace hs := Nat.le_trans hs (Nat.le_of_eq hW91.size.symm)
            have n_o_m := obj_wrote o_m hW91 (obj_ne o_m o_x3 (by simp))
            have n_o_x2 := obj_wrote o_x2 hW91 (obj_ne o_x2 o_x3 (by simp))
            have n_o_x4 := obj_wrote o_x4 hW91 (obj_ne o_x4 o_x3 (by simp))
            have n_o_x5 := obj_wrote o_x5 hW91 (obj_ne o_x5 o_x3 (by simp))
            have n_o_cb20 := obj_wrote o_cb20 hW91 (obj_ne o_cb20 o_x3 (by simp))
            have n_o_D0 := obj_wrote o_D0 hW91 (obj_ne o_D0 o_x3 (by simp))
            have n_o_x7 := obj_wrote o_x7 hW91 (obj_ne o_x7 o_x3 (by simp))
            have n_o_cb43 := obj_wrote o_cb43 hW91 (obj_ne o_cb43 o_x3 (by simp))
            have n_o_x8 := obj_wrote o_x8 hW91 (obj_ne o_x8 o_x3 (by simp))
            have n_p_xs := in_p_xs.below hb
            have n_r_x5_0 := r_x5_0.wrote hW91 (r_x5_0.ne o_x3 (by simp))
            replace o_m := n_o_m; clear n_o_m
            replace o_x2 := n_o_x2; clear n_o_x2
            replace o_x4 := n_o_x4; clear n_o_x4
            replace o_x5 := n_o_x5; clear n_o_x5
            replace o_cb20 := n_o_cb20; clear n_o_cb20
            replace o_D0 := n_o_D0; clear n_o_D0
            replace o_x7 := n_o_x7; clear n_o_x7
            replace o_cb43 := n_o_cb43; clear n_o_cb43
            replace o_x8 := n_o_x8; clear n_o_x8
            replace p_xs := n_p_xs; clear n_p_xs
            replace r_x5_0 := n_r_x5_0; clear n_r_x5_0
            replace o_x3 := hW91.here
            refine L_nil (thenQ_normal (W_region (L_load b35 0 (.int .i64 ((bk : Nat) : Int)) (by kernel_rfl) (by kernel_rfl) (cell_obj o_x7 rfl) (L_addN bk 1 (by omega) (by kernel_rfl) (by kernel_rfl) (L_store b35 0 (.int .i64 (((bk + 1) : Nat) : Int)) [(.int .i64 ((bk : Nat) : Int))] [(.int .i64 (((bk + 1) : Nat) : Int))] 3 (by kernel_rfl) (by kernel_rfl) rfl (by kernel_rfl) o_x7 (by simp) rfl ?_)))))
            intro w92 hW93
            replace hb := hb.trans (hW93.below g_x7)
            replace hk := hk.ch (Ch.of_wrote hW93) hK (fun k e h => nv_x7 (e ▸ h))
            replace hK := Nat.le_trans hK (Nat.le_of_eq hW93.size.symm)
            replace hs := Nat.le_trans hs (Nat.le_of_eq hW93.size.symm)
            have n_o_m := obj_wrote o_m hW93 (obj_ne o_m o_x7 (by simp))
            have n_o_x2 := obj_wrote o_x2 hW93 (obj_ne o_x2 o_x7 (by simp))
            have n_o_x3 := obj_wrote o_x3 hW93 (obj_ne o_x3 o_x7 (by simp))
            have n_o_x4 := obj_wrote o_x4 hW93 ne_x4_x7
            have n_o_x5 := obj_wrote o_x5 hW93 (obj_ne o_x5 o_x7 (by simp))
            have n_o_cb20 := obj_wrote o_cb20 hW93 (obj_ne o_cb20 o_x7 (by simp))
            have n_o_D0 := obj_wrote o_D0 hW93 (obj_ne o_D0 o_x7 (by simp))
            have n_o_cb43 := obj_wrote o_cb43 hW93 (obj_ne o_cb43 o_x7 (by simp))
            have n_o_x8 := obj_wrote o_x8 hW93 (obj_ne o_x8 o_x7 (by simp))
            have n_p_xs := in_p_xs.below hb
            have n_r_x5_0 := r_x5_0.wrote hW93 (r_x5_0.ne o_x7 (by simp))
            replace o_m := n_o_m; clear n_o_m
            replace o_x2 := n_o_x2; clear n_o_x2
            replace o_x3 := n_o_x3; clear n_o_x3
            replace o_x4 := n_o_x4; clear n_o_x4
            replace o_x5 := n_o_x5; clear n_o_x5
            replace o_cb20 := n_o_cb20; clear n_o_cb20
            replace o_D0 := n_o_D0; clear n_o_D0
            replace o_cb43 := n_o_cb43; clear n_o_cb43
            replace o_x8 := n_o_x8; clear n_o_x8
            replace p_xs := n_p_xs; clear n_p_xs
            replace r_x5_0 := n_r_x5_0; clear n_r_x5_0
            replace o_x7 := hW93.here
            refine L_nil (blkQ_normal ?_)
            refine thenQ_normal ⟨_, ?_, (x57.2 + 1), (bk + 1), rfl, hds, by kernel_rfl, by kernel_rfl, by kernel_rfl, by kernel_rfl, by kernel_rfl, by kernel_rfl, by kernel_rfl, p_xs, r_x5_0, o_m, o_x2, o_x3, o_x4, o_x5, o_cb20, o_D0, o_x7, o_cb43, o_x8, hb, hs, hk, hK, ?_, ?_⟩
            · omega
            · omega
            · exact .inr ⟨by omega, by omega, hcs.1⟩
        · intro h94
          replace h94 : x57.1 ≠ bt := by omega
          refine Lq_pickT (by kernel_rfl) (Lq_nil ?_)
          intro w95 hB96
          replace hb := hb.trans (hB96.mono hs)
          replace hk := hk.ch (Ch.of_below hB96) hK (fun _ h => h.elim)
          replace hK := Nat.le_trans hK (hB96.size)
          replace hs := Nat.le_trans hs (hB96.size)
          replace o_m := obj_below o_m hB96
          replace o_x2 := obj_below o_x2 hB96
          replace o_x3 := obj_below o_x3 hB96
          replace o_x4 := obj_below o_x4 hB96
          replace o_x5 := obj_below o_x5 hB96
          replace o_cb20 := obj_below o_cb20 hB96
          replace o_D0 := obj_below o_D0 hB96
          replace o_x7 := obj_below o_x7 hB96
          replace o_cb43 := obj_below o_cb43 hB96
          replace o_x8 := obj_below o_x8 hB96
          replace p_xs := p_xs.below hB96
          replace r_x5_0 := r_x5_0.below hB96
          refine thenQ_normal (W_false (by kernel_rfl) (W_exit (thenQ_exit (thenQ_exit (blkQ_exit (thenQ_normal (W_seq (W_seq (W_region (L_run (.pointer (some ⟨b44, 0, none⟩)) (by kernel_rfl) (by kernel_rfl) (L_load b44 0 (.int .i32 x.1) (by kernel_rfl) (by kernel_rfl) (cell_obj o_x8 rfl) (L_load b4 0 (.int .i32 bt) (by kernel_rfl) (by kernel_rfl) (cell_obj o_x3 rfl) (L_cmp .i32 x.1 bt (x.1 ≠ bt) rfl (cmp_ne x.1 bt) (by kernel_rfl) (by kernel_rfl) ?_ ?_)))))))))))))
          · intro h97
            replace h97 : x.1 ≠ bt := by omega
            exfalso; exact h97 (by first | exact (cov_exit1 hr hpre w2 r1 (by omega)).symm | exact (cov_exit2 hr hpre w2 r1 (by assumption) (by assumption)).symm)
          · intro h98
            replace h98 : x.1 = bt := by omega
            refine L_mv (L_want (by kernel_rfl) (L_run (.pointer (some ⟨b44, 1, none⟩)) (by kernel_rfl) (by kernel_rfl) (L_want (by kernel_rfl) (L_load b44 1 (.int .i32 x.2.1) (by kernel_rfl) (by kernel_rfl) (cell_obj o_x8 rfl) (L_want (by kernel_rfl) (L_run (.pointer (some ⟨b44, 0, none⟩)) (by kernel_rfl) (by kernel_rfl) (L_want (by kernel_rfl) (L_load b44 0 (.int .i32 x.1) (by kernel_rfl) (by kernel_rfl) (cell_obj o_x8 rfl) (L_want (by kernel_rfl) (L_cmp .i32 x.2.1 x.1 (x.2.1 < x.1) rfl (cmp_lt x.2.1 x.1) (by kernel_rfl) (by kernel_rfl) ?_ ?_))))))))))
            · intro h99
              replace h99 : x.2.1 < x.1 := by omega
              exfalso; omega
            · intro h100
              replace h100 : x.1 ≤ x.2.1 := by omega
              refine L_pickF (by kernel_rfl) (L_nil (thenQ_normal (W_false (by kernel_rfl) (W_skip (thenQ_normal (W_seq (W_region (L_run (.pointer (some ⟨b44, 1, none⟩)) (by kernel_rfl) (by kernel_rfl) (L_load b44 1 (.int .i32 x.2.1) (by kernel_rfl) (by kernel_rfl) (cell_obj o_x8 rfl) (L_arith x.2.1 1 (x.2.1 + 1) rfl (by kernel_rfl) (by kernel_rfl) (wrap_i32 _ (by simp only [arithZ]; omega) (by simp only [arithZ]; omega)) (L_store b4 0 (.int .i32 (x.2.1 + 1)) [(.int .i32 bt)] [(.int .i32 (x.2.1 + 1))] 21 (by kernel_rfl) (by kernel_rfl) rfl (by kernel_rfl) o_x3 (by simp) rfl ?_)))))))))))
              intro w101 hW102
              replace hb := hb.trans (hW102.below g_x3)
              replace hk := hk.ch (Ch.of_wrote hW102) hK (fun k e h => nv_x3 (e ▸ h))
              replace hK := Nat.le_trans hK (Nat.le_of_eq hW102.size.symm)
              replace hs := Nat.le_trans hs (Nat.le_of_eq hW102.size.symm)
              have n_o_m := obj_wrote o_m hW102 (obj_ne o_m o_x3 (by simp))
              have n_o_x2 := obj_wrote o_x2 hW102 (obj_ne o_x2 o_x3 (by simp))
              have n_o_x4 := obj_wrote o_x4 hW102 (obj_ne o_x4 o_x3 (by simp))
              have n_o_x5 := obj_wrote o_x5 hW102 (obj_ne o_x5 o_x3 (by simp))
              have n_o_cb20 := obj_wrote o_cb20 hW102 (obj_ne o_cb20 o_x3 (by simp))
              have n_o_D0 := obj_wrote o_D0 hW102 (obj_ne o_D0 o_x3 (by simp))
              have n_o_x7 := obj_wrote o_x7 hW102 (obj_ne o_x7 o_x3 (by simp))
              have n_o_cb43 := obj_wrote o_cb43 hW102 (obj_ne o_cb43 o_x3 (by simp))
              have n_o_x8 := obj_wrote o_x8 hW102 (obj_ne o_x8 o_x3 (by simp))
              have n_p_xs := in_p_xs.below hb
              have n_r_x5_0 := r_x5_0.wrote hW102 (r_x5_0.ne o_x3 (by simp))
              replace o_m := n_o_m; clear n_o_m
              replace o_x2 := n_o_x2; clear n_o_x2
              replace o_x4 := n_o_x4; clear n_o_x4
              replace o_x5 := n_o_x5; clear n_o_x5
              replace o_cb20 := n_o_cb20; clear n_o_cb20
              replace o_D0 := n_o_D0; clear n_o_D0
              replace o_x7 := n_o_x7; clear n_o_x7
              replace o_cb43 := n_o_cb43; clear n_o_cb43
              replace o_x8 := n_o_x8; clear n_o_x8
              replace p_xs := n_p_xs; clear n_p_xs
              replace r_x5_0 := n_r_x5_0; clear n_r_x5_0
              replace o_x3 := hW102.here
              refine L_nil (thenQ_normal (W_region (L_load b9 0 (.int .i64 nn) (by kernel_rfl) (by kernel_rfl) (cell_obj o_x4 rfl) (L_run (.pointer (some ⟨b44, 1, none⟩)) (by kernel_rfl) (by kernel_rfl) (L_load b44 1 (.int .i32 x.2.1) (by kernel_rfl) (by kernel_rfl) (cell_obj o_x8 rfl) (L_run (.pointer (some ⟨b44, 0, none⟩)) (by kernel_rfl) (by kernel_rfl) (L_load b44 0 (.int .i32 x.1) (by kernel_rfl) (by kernel_rfl) (cell_obj o_x8 rfl) (L_arith x.2.1 x.1 (x.2.1 - x.1) rfl (by kernel_rfl) (by kernel_rfl) (wrap_i32 _ (by simp only [arithZ]; omega) (by simp only [arithZ]; omega)) (L_conv (k := .i32) (x.2.1 - x.1) (x.2.1 - x.1) (by kernel_rfl) Try.underlying3 (by kernel_rfl) (wrap_i64 _ (by omega) (by omega)) (L_arith nn (x.2.1 - x.1) (nn + (x.2.1 - x.1)) rfl (by kernel_rfl) (by kernel_rfl) (wrap_i64 _ (by simp only [arithZ]; omega) (by simp only [arithZ]; omega)) (L_arith (nn + (x.2.1 - x.1)) 1 ((nn + (x.2.1 - x.1)) + 1) rfl (by kernel_rfl) (by kernel_rfl) (wrap_i64 _ (by simp only [arithZ]; omega) (by simp only [arithZ]; omega)) (L_store b9 0 (.int .i64 ((nn + (x.2.1 - x.1)) + 1)) [(.int .i64 nn)] [(.int .i64 ((nn + (x.2.1 - x.1)) + 1))] 3 (by kernel_rfl) (by kernel_rfl) rfl (by kernel_rfl) o_x4 (by simp) rfl ?_))))))))))))
              intro w103 hW104
              replace hb := hb.trans (hW104.below g_x4)
              replace hk := hk.ch (Ch.of_wrote hW104) hK (fun k e h => nv_x4 (e ▸ h))
              replace hK := Nat.le_trans hK (Nat.le_of_eq hW104.size.symm)
              replace hs := Nat.le_trans hs (Nat.le_of_eq hW104.size.symm)
              have n_o_m := obj_wrote o_m hW104 (obj_ne o_m o_x4 (by simp))
              have n_o_x2 := obj_wrote o_x2 hW104 (obj_ne o_x2 o_x4 (by simp))
              have n_o_x3 := obj_wrote o_x3 hW104 (obj_ne o_x3 o_x4 (by simp))
              have n_o_x5 := obj_wrote o_x5 hW104 (obj_ne o_x5 o_x4 (by simp))
              have n_o_cb20 := obj_wrote o_cb20 hW104 (obj_ne o_cb20 o_x4 (by simp))
              have n_o_D0 := obj_wrote o_D0 hW104 (obj_ne o_D0 o_x4 (by simp))
              have n_o_x7 := obj_wrote o_x7 hW104 ne_x7_x4
              have n_o_cb43 := obj_wrote o_cb43 hW104 (obj_ne o_cb43 o_x4 (by simp))
              have n_o_x8 := obj_wrote o_x8 hW104 (obj_ne o_x8 o_x4 (by simp))
              have n_p_xs := in_p_xs.below hb
              have n_r_x5_0 := r_x5_0.wrote hW104 (r_x5_0.ne o_x4 (by simp))
              replace o_m := n_o_m; clear n_o_m
              replace o_x2 := n_o_x2; clear n_o_x2
              replace o_x3 := n_o_x3; clear n_o_x3
              replace o_x5 := n_o_x5; clear n_o_x5
              replace o_cb20 := n_o_cb20; clear n_o_cb20
              replace o_D0 := n_o_D0; clear n_o_D0
              replace o_x7 := n_o_x7; clear n_o_x7
              replace o_cb43 := n_o_cb43; clear n_o_cb43
              replace o_x8 := n_o_x8; clear n_o_x8
              replace p_xs := n_p_xs; clear n_p_xs
              replace r_x5_0 := n_r_x5_0; clear n_r_x5_0
              replace o_x4 := hW104.here
              refine L_nil (blkQ_normal ?_)
              refine round_normal hk ⟨o_cb43, o_m, p_xs⟩ ⟨(x.2.1 + 1), bk, ((nn + (x.2.1 - x.1)) + 1), o_m, o_x2, o_x3, o_x4, o_x5, o_cb20, o_D0, o_x7, o_cb43, r_x5_0, nr_r_x5_0, hb, ?_, ?_, ?_⟩
              · exact (next_snoc pre x).symm
              · exact cov_len w2 (by assumption)
              · rw [r5]; exact size_pre pre x
      · intro h105
        replace h105 : (gp).length ≤ bk := by omega
        refine Lq_mv (Lq_skip (by kernel_rfl) (Lq_skip (by kernel_rfl) (Lq_skip (by kernel_rfl) (Lq_skip (by kernel_rfl) (Lq_skip (by kernel_rfl) (Lq_skip (by kernel_rfl) (Lq_skip (by kernel_rfl) (Lq_pickF (by kernel_rfl) (Lq_nil ?_)))))))))
        intro w106 hB107
        replace hb := hb.trans (hB107.mono hs)
        replace hk := hk.ch (Ch.of_below hB107) hK (fun _ h => h.elim)
        replace hK := Nat.le_trans hK (hB107.size)
        replace hs := Nat.le_trans hs (hB107.size)
        replace o_m := obj_below o_m hB107
        replace o_x2 := obj_below o_x2 hB107
        replace o_x3 := obj_below o_x3 hB107
        replace o_x4 := obj_below o_x4 hB107
        replace o_x5 := obj_below o_x5 hB107
        replace o_cb20 := obj_below o_cb20 hB107
        replace o_D0 := obj_below o_D0 hB107
        replace o_x7 := obj_below o_x7 hB107
        replace o_cb43 := obj_below o_cb43 hB107
        replace o_x8 := obj_below o_x8 hB107
        replace p_xs := p_xs.below hB107
        replace r_x5_0 := r_x5_0.below hB107
        refine thenQ_normal (W_false (by kernel_rfl) (W_exit (thenQ_exit (thenQ_exit (blkQ_exit (thenQ_normal (W_seq (W_seq (W_region (L_run (.pointer (some ⟨b44, 0, none⟩)) (by kernel_rfl) (by kernel_rfl) (L_load b44 0 (.int .i32 x.1) (by kernel_rfl) (by kernel_rfl) (cell_obj o_x8 rfl) (L_load b4 0 (.int .i32 bt) (by kernel_rfl) (by kernel_rfl) (cell_obj o_x3 rfl) (L_cmp .i32 x.1 bt (x.1 ≠ bt) rfl (cmp_ne x.1 bt) (by kernel_rfl) (by kernel_rfl) ?_ ?_)))))))))))))
        · intro h108
          replace h108 : x.1 ≠ bt := by omega
          exfalso; exact h108 (by first | exact (cov_exit1 hr hpre w2 r1 (by omega)).symm | exact (cov_exit2 hr hpre w2 r1 (by assumption) (by assumption)).symm)
        · intro h109
          replace h109 : x.1 = bt := by omega
          refine L_mv (L_want (by kernel_rfl) (L_run (.pointer (some ⟨b44, 1, none⟩)) (by kernel_rfl) (by kernel_rfl) (L_want (by kernel_rfl) (L_load b44 1 (.int .i32 x.2.1) (by kernel_rfl) (by kernel_rfl) (cell_obj o_x8 rfl) (L_want (by kernel_rfl) (L_run (.pointer (some ⟨b44, 0, none⟩)) (by kernel_rfl) (by kernel_rfl) (L_want (by kernel_rfl) (L_load b44 0 (.int .i32 x.1) (by kernel_rfl) (by kernel_rfl) (cell_obj o_x8 rfl) (L_want (by kernel_rfl) (L_cmp .i32 x.2.1 x.1 (x.2.1 < x.1) rfl (cmp_lt x.2.1 x.1) (by kernel_rfl) (by kernel_rfl) ?_ ?_))))))))))
          · intro h110
            replace h110 : x.2.1 < x.1 := by omega
            exfalso; omega
          · intro h111
            replace h111 : x.1 ≤ x.2.1 := by omega
            refine L_pickF (by kernel_rfl) (L_nil (thenQ_normal (W_false (by kernel_rfl) (W_skip (thenQ_normal (W_seq (W_region (L_run (.pointer (some ⟨b44, 1, none⟩)) (by kernel_rfl) (by kernel_rfl) (L_load b44 1 (.int .i32 x.2.1) (by kernel_rfl) (by kernel_rfl) (cell_obj o_x8 rfl) (L_arith x.2.1 1 (x.2.1 + 1) rfl (by kernel_rfl) (by kernel_rfl) (wrap_i32 _ (by simp only [arithZ]; omega) (by simp only [arithZ]; omega)) (L_store b4 0 (.int .i32 (x.2.1 + 1)) [(.int .i32 bt)] [(.int .i32 (x.2.1 + 1))] 21 (by kernel_rfl) (by kernel_rfl) rfl (by kernel_rfl) o_x3 (by simp) rfl ?_)))))))))))
            intro w112 hW113
            replace hb := hb.trans (hW113.below g_x3)
            replace hk := hk.ch (Ch.of_wrote hW113) hK (fun k e h => nv_x3 (e ▸ h))
            replace hK := Nat.le_trans hK (Nat.le_of_eq hW113.size.symm)
            replace hs := Nat.le_trans hs (Nat.le_of_eq hW113.size.symm)
            have n_o_m := obj_wrote o_m hW113 (obj_ne o_m o_x3 (by simp))
            have n_o_x2 := obj_wrote o_x2 hW113 (obj_ne o_x2 o_x3 (by simp))
            have n_o_x4 := obj_wrote o_x4 hW113 (obj_ne o_x4 o_x3 (by simp))
            have n_o_x5 := obj_wrote o_x5 hW113 (obj_ne o_x5 o_x3 (by simp))
            have n_o_cb20 := obj_wrote o_cb20 hW113 (obj_ne o_cb20 o_x3 (by simp))
            have n_o_D0 := obj_wrote o_D0 hW113 (obj_ne o_D0 o_x3 (by simp))
            have n_o_x7 := obj_wrote o_x7 hW113 (obj_ne o_x7 o_x3 (by simp))
            have n_o_cb43 := obj_wrote o_cb43 hW113 (obj_ne o_cb43 o_x3 (by simp))
            have n_o_x8 := obj_wrote o_x8 hW113 (obj_ne o_x8 o_x3 (by simp))
            have n_p_xs := in_p_xs.below hb
            have n_r_x5_0 := r_x5_0.wrote hW113 (r_x5_0.ne o_x3 (by simp))
            replace o_m := n_o_m; clear n_o_m
            replace o_x2 := n_o_x2; clear n_o_x2
            replace o_x4 := n_o_x4; clear n_o_x4
            replace o_x5 := n_o_x5; clear n_o_x5
            replace o_cb20 := n_o_cb20; clear n_o_cb20
            replace o_D0 := n_o_D0; clear n_o_D0
            replace o_x7 := n_o_x7; clear n_o_x7
            replace o_cb43 := n_o_cb43; clear n_o_cb43
            replace o_x8 := n_o_x8; clear n_o_x8
            replace p_xs := n_p_xs; clear n_p_xs
            replace r_x5_0 := n_r_x5_0; clear n_r_x5_0
            replace o_x3 := hW113.here
            refine L_nil (thenQ_normal (W_region (L_load b9 0 (.int .i64 nn) (by kernel_rfl) (by kernel_rfl) (cell_obj o_x4 rfl) (L_run (.pointer (some ⟨b44, 1, none⟩)) (by kernel_rfl) (by kernel_rfl) (L_load b44 1 (.int .i32 x.2.1) (by kernel_rfl) (by kernel_rfl) (cell_obj o_x8 rfl) (L_run (.pointer (some ⟨b44, 0, none⟩)) (by kernel_rfl) (by kernel_rfl) (L_load b44 0 (.int .i32 x.1) (by kernel_rfl) (by kernel_rfl) (cell_obj o_x8 rfl) (L_arith x.2.1 x.1 (x.2.1 - x.1) rfl (by kernel_rfl) (by kernel_rfl) (wrap_i32 _ (by simp only [arithZ]; omega) (by simp only [arithZ]; omega)) (L_conv (k := .i32) (x.2.1 - x.1) (x.2.1 - x.1) (by kernel_rfl) Try.underlying3 (by kernel_rfl) (wrap_i64 _ (by omega) (by omega)) (L_arith nn (x.2.1 - x.1) (nn + (x.2.1 - x.1)) rfl (by kernel_rfl) (by kernel_rfl) (wrap_i64 _ (by simp only [arithZ]; omega) (by simp only [arithZ]; omega)) (L_arith (nn + (x.2.1 - x.1)) 1 ((nn + (x.2.1 - x.1)) + 1) rfl (by kernel_rfl) (by kernel_rfl) (wrap_i64 _ (by simp only [arithZ]; omega) (by simp only [arithZ]; omega)) (L_store b9 0 (.int .i64 ((nn + (x.2.1 - x.1)) + 1)) [(.int .i64 nn)] [(.int .i64 ((nn + (x.2.1 - x.1)) + 1))] 3 (by kernel_rfl) (by kernel_rfl) rfl (by kernel_rfl) o_x4 (by simp) rfl ?_))))))))))))
            intro w114 hW115
            replace hb := hb.trans (hW115.below g_x4)
            replace hk := hk.ch (Ch.of_wrote hW115) hK (fun k e h => nv_x4 (e ▸ h))
            replace hK := Nat.le_trans hK (Nat.le_of_eq hW115.size.symm)
            replace hs := Nat.le_trans hs (Nat.le_of_eq hW115.size.symm)
            have n_o_m := obj_wrote o_m hW115 (obj_ne o_m o_x4 (by simp))
            have n_o_x2 := obj_wrote o_x2 hW115 (obj_ne o_x2 o_x4 (by simp))
            have n_o_x3 := obj_wrote o_x3 hW115 (obj_ne o_x3 o_x4 (by simp))
            have n_o_x5 := obj_wrote o_x5 hW115 (obj_ne o_x5 o_x4 (by simp))
            have n_o_cb20 := obj_wrote o_cb20 hW115 (obj_ne o_cb20 o_x4 (by simp))
            have n_o_D0 := obj_wrote o_D0 hW115 (obj_ne o_D0 o_x4 (by simp))
            have n_o_x7 := obj_wrote o_x7 hW115 ne_x7_x4
            have n_o_cb43 := obj_wrote o_cb43 hW115 (obj_ne o_cb43 o_x4 (by simp))
            have n_o_x8 := obj_wrote o_x8 hW115 (obj_ne o_x8 o_x4 (by simp))
            have n_p_xs := in_p_xs.below hb
            have n_r_x5_0 := r_x5_0.wrote hW115 (r_x5_0.ne o_x4 (by simp))
            replace o_m := n_o_m; clear n_o_m
            replace o_x2 := n_o_x2; clear n_o_x2
            replace o_x3 := n_o_x3; clear n_o_x3
            replace o_x5 := n_o_x5; clear n_o_x5
            replace o_cb20 := n_o_cb20; clear n_o_cb20
            replace o_D0 := n_o_D0; clear n_o_D0
            replace o_x7 := n_o_x7; clear n_o_x7
            replace o_cb43 := n_o_cb43; clear n_o_cb43
            replace o_x8 := n_o_x8; clear n_o_x8
            replace p_xs := n_p_xs; clear n_p_xs
            replace r_x5_0 := n_r_x5_0; clear n_r_x5_0
            replace o_x4 := hW115.here
            refine L_nil (blkQ_normal ?_)
            refine round_normal hk ⟨o_cb43, o_m, p_xs⟩ ⟨(x.2.1 + 1), bk, ((nn + (x.2.1 - x.1)) + 1), o_m, o_x2, o_x3, o_x4, o_x5, o_cb20, o_D0, o_x7, o_cb43, r_x5_0, nr_r_x5_0, hb, ?_, ?_, ?_⟩
            · exact (next_snoc pre x).symm
            · exact cov_len w2 (by assumption)
            · rw [r5]; exact size_pre pre x
    · intro K A hi hsz o_D1
      obtain ⟨at_, kk, nn, o_m, o_x2, o_x3, o_x4, o_x5, o_cb20, o_D0, o_x7, o_cb43, r_x5_0, nr_r_x5_0, hb, r3, r4, r5⟩ := hi
      have p_xs := in_p_xs.below hb
      have ne_m_D1 : b_m ≠ w40.heap.size := Nat.ne_of_lt lt_m_1
      have ne_D1_m := ne_m_D1.symm
      have ne_x2_D1 : b1 ≠ w40.heap.size := Nat.ne_of_lt lt_x2_1
      have ne_D1_x2 := ne_x2_D1.symm
      have ne_x3_D1 : b4 ≠ w40.heap.size := Nat.ne_of_lt lt_x3_1
      have ne_D1_x3 := ne_x3_D1.symm
      have ne_x4_D1 : b9 ≠ w40.heap.size := Nat.ne_of_lt lt_x4_1
      have ne_D1_x4 := ne_x4_D1.symm
      have ne_x5_D1 : b14 ≠ w40.heap.size := Nat.ne_of_lt lt_x5_1
      have ne_D1_x5 := ne_x5_D1.symm
      have ne_cb20_D1 : cb20 ≠ w40.heap.size := Nat.ne_of_lt lt_cb20_1
      have ne_D1_cb20 := ne_cb20_D1.symm
      have ne_D0_D1 : w17.heap.size ≠ w40.heap.size := Nat.ne_of_lt lt_D0_1
      have ne_D1_D0 := ne_D0_D1.symm
      have ne_x7_D1 : b35 ≠ w40.heap.size := Nat.ne_of_lt lt_x7_1
      have ne_D1_x7 := ne_x7_D1.symm
      have ne_cb43_D1 : cb43 ≠ w40.heap.size := Nat.ne_of_lt lt_cb43_1
      have ne_D1_cb43 := ne_cb43_D1.symm
      have hs : w.heap.size ≤ _ := hb.size
      refine blkQ_normal (thenQ_normal (W_seq (W_seq (W_region (L_load b35 0 (.int .i64 ((kk : Nat) : Int)) (by kernel_rfl) (by kernel_rfl) (cell_obj o_x7 rfl) (L_load b14 0 v_x5_0 (by kernel_rfl) (by kernel_rfl) (cell_obj o_x5 rfl) (L_len 22 29 (gp).length v_x5_0 rfl Try.underlying22 (r_x5_0.rd).len (by kernel_rfl) (L_cmp .i64 ((kk : Nat) : Int) (((gp).length : Nat) : Int) (kk < (gp).length) rfl (cmpN_lt kk ((gp).length)) (by kernel_rfl) (by kernel_rfl) ?_ ?_))))))))
      · intro h116
        replace h116 : kk < (gp).length := by omega
        have hgl := congrArg List.length r1
        refine L_nil (thenQ_normal (W_true (by kernel_rfl) (W_seq (W_seq (W_quiet (by kernel_rfl) (by kernel_rfl) (Lq_load b14 0 v_x5_0 (by kernel_rfl) (fun _ => by kernel_rfl) (cell_obj o_x5 rfl) (Lq_load b35 0 (.int .i64 ((kk : Nat) : Int)) (by kernel_rfl) (fun _ => by kernel_rfl) (cell_obj o_x7 rfl) ?_)))))))
        have hz := get_some gp kk (by omega); obtain ⟨x117, hx118⟩ := hz
        have hz := (r_x5_0.rd).at (k := 2) (fun _ => rfl) hx118
        obtain ⟨g119, off120, hl121, hc122⟩ := hz
        refine Lq_ixaddr (k := .i64) v_x5_0 kk _ g119 off120 el22 hl121 (by omega) (by kernel_rfl) (by kernel_rfl) (Lq_run (.pointer (some ⟨g119, (off120 + kk * 2), none⟩)) (fun _ => by kernel_rfl) (Lq_load g119 (off120 + kk * 2) (.int .i32 x117.1) (by kernel_rfl) (fun _ => by kernel_rfl) (hc122 0 _ rfl) (Lq_load b4 0 (.int .i32 at_) (by kernel_rfl) (fun _ => by kernel_rfl) (cell_obj o_x3 rfl) (Lq_cmp .i32 x117.1 at_ (x117.1 ≠ at_) rfl (cmp_ne x117.1 at_) (by kernel_rfl) (by kernel_rfl) ?_ ?_))))
        · intro h123
          replace h123 : x117.1 ≠ at_ := by omega
          exfalso; exact h123 (fin_lo r1 r4 r3 (by assumption))
        · intro h124
          replace h124 : x117.1 = at_ := by omega
          have hce := fin_hi r1 r4 (by assumption)
          refine Lq_nil ?_
          intro w125 hB126
          replace hb := hb.trans (hB126.mono hs)
          replace hs := Nat.le_trans hs (hB126.size)
          replace o_m := obj_below o_m hB126
          replace o_x2 := obj_below o_x2 hB126
          replace o_x3 := obj_below o_x3 hB126
          replace o_x4 := obj_below o_x4 hB126
          replace o_x5 := obj_below o_x5 hB126
          replace o_cb20 := obj_below o_cb20 hB126
          replace o_D0 := obj_below o_D0 hB126
          replace o_x7 := obj_below o_x7 hB126
          replace o_cb43 := obj_below o_cb43 hB126
          replace o_D1 := obj_below o_D1 hB126
          replace p_xs := p_xs.below hB126
          replace r_x5_0 := r_x5_0.below hB126
          refine thenQ_normal (W_false (by kernel_rfl) (W_skip (thenQ_normal (W_seq (W_region (L_load b14 0 v_x5_0 (by kernel_rfl) (by kernel_rfl) (cell_obj o_x5 rfl) (L_load b35 0 (.int .i64 ((kk : Nat) : Int)) (by kernel_rfl) (by kernel_rfl) (cell_obj o_x7 rfl) ?_)))))))
          have hz := (r_x5_0.rd).at (k := 2) (fun _ => rfl) hx118
          obtain ⟨g129, off130, hl131, hc132⟩ := hz
          refine L_ixaddr (k := .i64) v_x5_0 kk _ g129 off130 el22 hl131 (by omega) (by kernel_rfl) (by kernel_rfl) (L_run (.pointer (some ⟨g129, ((off130 + kk * 2) + 1), none⟩)) (by kernel_rfl) (by kernel_rfl) (L_load g129 ((off130 + kk * 2) + 1) (.int .i32 x117.2) (by kernel_rfl) (by kernel_rfl) (hc132 1 _ rfl) (L_arith x117.2 1 (x117.2 + 1) rfl (by kernel_rfl) (by kernel_rfl) (wrap_i32 _ (by simp only [arithZ]; omega) (by simp only [arithZ]; omega)) (L_store b4 0 (.int .i32 (x117.2 + 1)) [(.int .i32 at_)] [(.int .i32 (x117.2 + 1))] 21 (by kernel_rfl) (by kernel_rfl) rfl (by kernel_rfl) o_x3 (by simp) rfl ?_))))
          intro w133 hW134
          replace hb := hb.trans (hW134.below g_x3)
          replace hs := Nat.le_trans hs (Nat.le_of_eq hW134.size.symm)
          have n_o_m := obj_wrote o_m hW134 (obj_ne o_m o_x3 (by simp))
          have n_o_x2 := obj_wrote o_x2 hW134 (obj_ne o_x2 o_x3 (by simp))
          have n_o_x4 := obj_wrote o_x4 hW134 (obj_ne o_x4 o_x3 (by simp))
          have n_o_x5 := obj_wrote o_x5 hW134 (obj_ne o_x5 o_x3 (by simp))
          have n_o_cb20 := obj_wrote o_cb20 hW134 (obj_ne o_cb20 o_x3 (by simp))
          have n_o_D0 := obj_wrote o_D0 hW134 (obj_ne o_D0 o_x3 (by simp))
          have n_o_x7 := obj_wrote o_x7 hW134 (obj_ne o_x7 o_x3 (by simp))
          have n_o_cb43 := obj_wrote o_cb43 hW134 (obj_ne o_cb43 o_x3 (by simp))
          have n_o_D1 := obj_wrote o_D1 hW134 (obj_ne o_D1 o_x3 (by simp))
          have n_p_xs := in_p_xs.below hb
          have n_r_x5_0 := r_x5_0.wrote hW134 (r_x5_0.ne o_x3 (by simp))
          replace o_m := n_o_m; clear n_o_m
          replace o_x2 := n_o_x2; clear n_o_x2
          replace o_x4 := n_o_x4; clear n_o_x4
          replace o_x5 := n_o_x5; clear n_o_x5
          replace o_cb20 := n_o_cb20; clear n_o_cb20
          replace o_D0 := n_o_D0; clear n_o_D0
          replace o_x7 := n_o_x7; clear n_o_x7
          replace o_cb43 := n_o_cb43; clear n_o_cb43
          replace o_D1 := n_o_D1; clear n_o_D1
          replace p_xs := n_p_xs; clear n_p_xs
          replace r_x5_0 := n_r_x5_0; clear n_r_x5_0
          replace o_x3 := hW134.here
          refine L_nil (thenQ_normal (W_region (L_load b35 0 (.int .i64 ((kk : Nat) : Int)) (by kernel_rfl) (by kernel_rfl) (cell_obj o_x7 rfl) (L_addN kk 1 (by omega) (by kernel_rfl) (by kernel_rfl) (L_store b35 0 (.int .i64 (((kk + 1) : Nat) : Int)) [(.int .i64 ((kk : Nat) : Int))] [(.int .i64 (((kk + 1) : Nat) : Int))] 3 (by kernel_rfl) (by kernel_rfl) rfl (by kernel_rfl) o_x7 (by simp) rfl ?_)))))
          intro w135 hW136
          replace hb := hb.trans (hW136.below g_x7)
          replace hs := Nat.le_trans hs (Nat.le_of_eq hW136.size.symm)
          have n_o_m := obj_wrote o_m hW136 (obj_ne o_m o_x7 (by simp))
          have n_o_x2 := obj_wrote o_x2 hW136 (obj_ne o_x2 o_x7 (by simp))
          have n_o_x3 := obj_wrote o_x3 hW136 (obj_ne o_x3 o_x7 (by simp))
          have n_o_x4 := obj_wrote o_x4 hW136 ne_x4_x7
          have n_o_x5 := obj_wrote o_x5 hW136 (obj_ne o_x5 o_x7 (by simp))
          have n_o_cb20 := obj_wrote o_cb20 hW136 (obj_ne o_cb20 o_x7 (by simp))
          have n_o_D0 := obj_wrote o_D0 hW136 (obj_ne o_D0 o_x7 (by simp))
          have n_o_cb43 := obj_wrote o_cb43 hW136 (obj_ne o_cb43 o_x7 (by simp))
          have n_o_D1 := obj_wrote o_D1 hW136 (obj_ne o_D1 o_x7 (by simp))
          have n_p_xs := in_p_xs.below hb
          have n_r_x5_0 := r_x5_0.wrote hW136 (r_x5_0.ne o_x7 (by simp))
          replace o_m := n_o_m; clear n_o_m
          replace o_x2 := n_o_x2; clear n_o_x2
          replace o_x3 := n_o_x3; clear n_o_x3
          replace o_x4 := n_o_x4; clear n_o_x4
          replace o_x5 := n_o_x5; clear n_o_x5
          replace o_cb20 := n_o_cb20; clear n_o_cb20
          replace o_D0 := n_o_D0; clear n_o_D0
          replace o_cb43 := n_o_cb43; clear n_o_cb43
          replace o_D1 := n_o_D1; clear n_o_D1
          replace p_xs := n_p_xs; clear n_p_xs
          replace r_x5_0 := n_r_x5_0; clear n_r_x5_0
          replace o_x7 := hW136.here
          refine L_nil (thenQ_normal (W_seq (W_pre 14 15 1 (by kernel_rfl) (by kernel_rfl) (by kernel_rfl) (by kernel_rfl) (by kernel_rfl) (by kernel_rfl) (by kernel_rfl) (Lq_load b4 0 (.int .i32 (x117.2 + 1)) (by kernel_rfl) (fun _ => by kernel_rfl) (cell_obj o_x3 rfl) (Lq_cmp .i32 (x117.2 + 1) 1114112 ((x117.2 + 1) = 1114112) rfl (cmp_eq (x117.2 + 1) 1114112) (by kernel_rfl) (by kernel_rfl) ?_ ?_)))))
          · intro h137
            replace h137 : (x117.2 + 1) = 1114112 := by omega
            refine Lq_mv (Lq_want (by kernel_rfl) (Lq_load b35 0 (.int .i64 (((kk + 1) : Nat) : Int)) (by kernel_rfl) (fun _ => by kernel_rfl) (cell_obj o_x7 rfl) (Lq_want (by kernel_rfl) (Lq_load b14 0 v_x5_0 (by kernel_rfl) (fun _ => by kernel_rfl) (cell_obj o_x5 rfl) (Lq_want (by kernel_rfl) (Lq_len 22 29 (gp).length v_x5_0 rfl Try.underlying22 (r_x5_0.rd).len (by kernel_rfl) (Lq_want (by kernel_rfl) (Lq_cmp .i64 (((kk + 1) : Nat) : Int) (((gp).length : Nat) : Int) ((kk + 1) = (gp).length) rfl (cmpN_eq (kk + 1) ((gp).length)) (by kernel_rfl) (by kernel_rfl) ?_ ?_))))))))
            · intro h138
              replace h138 : (kk + 1) = (gp).length := by omega
              refine Lq_pickT (by kernel_rfl) (Lq_mv (Lq_want (by kernel_rfl) (Lq_load b9 0 (.int .i64 nn) (by kernel_rfl) (fun _ => by kernel_rfl) (cell_obj o_x4 rfl) (Lq_want (by kernel_rfl) (Lq_mv (Lq_want (by kernel_rfl) (Lq_call 37 [(.pointer (some ⟨b_m, 0, none⟩))] (.int .i64 (sizeG xs)) (fun _ _ => by kernel_rfl) (fun wq hbq => c_size_I b_m v_xs xs wq (obj_below o_m hbq) (p_xs.below hbq) (by exact hr)) (Lq_want (by kernel_rfl) (Lq_cmp .i64 nn (sizeG xs) (nn = (sizeG xs)) rfl (cmp_eq nn (sizeG xs)) (by kernel_rfl) (by kernel_rfl) ?_ ?_)))))))))
              · intro h139
                replace h139 : nn = (sizeG xs) := by omega
                refine Lq_pickT (by kernel_rfl) (Lq_nil ?_)
                intro w140 hB141
                replace hb := hb.trans (hB141.mono hs)
                replace hs := Nat.le_trans hs (hB141.size)
                replace o_m := obj_below o_m hB141
                replace o_x2 := obj_below o_x2 hB141
                replace o_x3 := obj_below o_x3 hB141
                replace o_x4 := obj_below o_x4 hB141
                replace o_x5 := obj_below o_x5 hB141
                replace o_cb20 := obj_below o_cb20 hB141
                replace o_D0 := obj_below o_D0 hB141
                replace o_x7 := obj_below o_x7 hB141
                replace o_cb43 := obj_below o_cb43 hB141
                replace o_D1 := obj_below o_D1 hB141
                replace p_xs := p_xs.below hB141
                replace r_x5_0 := r_x5_0.below hB141
                refine I_all1 14 (by kernel_rfl) ?_
                refine I_op 14 rfl ?_ rfl
                refine L_store b1 0 (.bool true) [(.bool false)] [(.bool true)] 4 (by kernel_rfl) (by kernel_rfl) rfl (by kernel_rfl) o_x2 (by simp) rfl ?_
                intro w142 hW143
                replace hb := hb.trans (hW143.below g_x2)
                replace hs := Nat.le_trans hs (Nat.le_of_eq hW143.size.symm)
                have n_o_m := obj_wrote o_m hW143 (obj_ne o_m o_x2 (by simp))
                have n_o_x3 := obj_wrote o_x3 hW143 (obj_ne o_x3 o_x2 (by simp))
                have n_o_x4 := obj_wrote o_x4 hW143 (obj_ne o_x4 o_x2 (by simp))
                have n_o_x5 := obj_wrote o_x5 hW143 (obj_ne o_x5 o_x2 (by simp))
                have n_o_cb20 := obj_wrote o_cb20 hW143 (obj_ne o_cb20 o_x2 (by simp))
                have n_o_D0 := obj_wrote o_D0 hW143 (obj_ne o_D0 o_x2 (by simp))
                have n_o_x7 := obj_wrote o_x7 hW143 (obj_ne o_x7 o_x2 (by simp))
                have n_o_cb43 := obj_wrote o_cb43 hW143 (obj_ne o_cb43 o_x2 (by simp))
                have n_o_D1 := obj_wrote o_D1 hW143 (obj_ne o_D1 o_x2 (by simp))
                have n_p_xs := in_p_xs.below hb
                have n_r_x5_0 := r_x5_0.wrote hW143 (r_x5_0.ne o_x2 (by simp))
                replace o_m := n_o_m; clear n_o_m
                replace o_x3 := n_o_x3; clear n_o_x3
                replace o_x4 := n_o_x4; clear n_o_x4
                replace o_x5 := n_o_x5; clear n_o_x5
                replace o_cb20 := n_o_cb20; clear n_o_cb20
                replace o_D0 := n_o_D0; clear n_o_D0
                replace o_x7 := n_o_x7; clear n_o_x7
                replace o_cb43 := n_o_cb43; clear n_o_cb43
                replace o_D1 := n_o_D1; clear n_o_D1
                replace p_xs := n_p_xs; clear n_p_xs
                replace r_x5_0 := n_r_x5_0; clear n_r_x5_0
                replace o_x2 := hW143.here
                refine L_nil ?_
                refine ⟨rfl, ?_⟩
                refine I_done (by kernel_rfl) ?_
                refine thenQ_normal (W_ret (end_retM (ds := [⟨.collected w40.heap.size, #[]⟩, ⟨.collected w17.heap.size, #[]⟩]) (by kernel_rfl) (Lv_mark o_D1 ?_)))
                intro w144 hW145
                replace hb := hb.trans (hW145.below hs_1)
                replace hs := Nat.le_trans hs (Nat.le_of_eq hW145.size.symm)
                have n_o_m := obj_wrote o_m hW145 (obj_ne o_m o_D1 (by simp))
                have n_o_x2 := obj_wrote o_x2 hW145 (obj_ne o_x2 o_D1 (by simp))
                have n_o_x3 := obj_wrote o_x3 hW145 (obj_ne o_x3 o_D1 (by simp))
                have n_o_x4 := obj_wrote o_x4 hW145 (obj_ne o_x4 o_D1 (by simp))
                have n_o_x5 := obj_wrote o_x5 hW145 (obj_ne o_x5 o_D1 (by simp))
                have n_o_cb20 := obj_wrote o_cb20 hW145 (obj_ne o_cb20 o_D1 (by simp))
                have n_o_D0 := obj_wrote o_D0 hW145 ne_D0_D1
                have n_o_x7 := obj_wrote o_x7 hW145 (obj_ne o_x7 o_D1 (by simp))
                have n_o_cb43 := obj_wrote o_cb43 hW145 (obj_ne o_cb43 o_D1 (by simp))
                have n_p_xs := in_p_xs.below hb
                have n_r_x5_0 := r_x5_0.wrote hW145 (r_x5_0.ne o_D1 (by simp))
                replace o_m := n_o_m; clear n_o_m
                replace o_x2 := n_o_x2; clear n_o_x2
                replace o_x3 := n_o_x3; clear n_o_x3
                replace o_x4 := n_o_x4; clear n_o_x4
                replace o_x5 := n_o_x5; clear n_o_x5
                replace o_cb20 := n_o_cb20; clear n_o_cb20
                replace o_D0 := n_o_D0; clear n_o_D0
                replace o_x7 := n_o_x7; clear n_o_x7
                replace o_cb43 := n_o_cb43; clear n_o_cb43
                replace p_xs := n_p_xs; clear n_p_xs
                replace r_x5_0 := n_r_x5_0; clear n_r_x5_0
                replace o_D1 := hW145.here
                refine Lv_mark o_D0 ?_
                intro w146 hW147
                replace hb := hb.trans (hW147.below hs_0)
                replace hs := Nat.le_trans hs (Nat.le_of_eq hW147.size.symm)
                have n_o_m := obj_wrote o_m hW147 (obj_ne o_m o_D0 (by simp))
                have n_o_x2 := obj_wrote o_x2 hW147 (obj_ne o_x2 o_D0 (by simp))
                have n_o_x3 := obj_wrote o_x3 hW147 (obj_ne o_x3 o_D0 (by simp))
                have n_o_x4 := obj_wrote o_x4 hW147 (obj_ne o_x4 o_D0 (by simp))
                have n_o_x5 := obj_wrote o_x5 hW147 (obj_ne o_x5 o_D0 (by simp))
                have n_o_cb20 := obj_wrote o_cb20 hW147 (obj_ne o_cb20 o_D0 (by simp))
                have n_o_x7 := obj_wrote o_x7 hW147 (obj_ne o_x7 o_D0 (by simp))
                have n_o_cb43 := obj_wrote o_cb43 hW147 (obj_ne o_cb43 o_D0 (by simp))
                have n_o_D1 := obj_wrote o_D1 hW147 (obj_ne o_D1 o_D0 (by simp))
                have n_p_xs := in_p_xs.below hb
                have n_r_x5_0 := r_x5_0.wrote hW147 (r_x5_0.ne o_D0 (by simp))
                replace o_m := n_o_m; clear n_o_m
                replace o_x2 := n_o_x2; clear n_o_x2
                replace o_x3 := n_o_x3; clear n_o_x3
                replace o_x4 := n_o_x4; clear n_o_x4
                replace o_x5 := n_o_x5; clear n_o_x5
                replace o_cb20 := n_o_cb20; clear n_o_cb20
                replace o_x7 := n_o_x7; clear n_o_x7
                replace o_cb43 := n_o_cb43; clear n_o_cb43
                replace o_D1 := n_o_D1; clear n_o_D1
                replace p_xs := n_p_xs; clear n_p_xs
                replace r_x5_0 := n_r_x5_0; clear n_r_x5_0
                replace o_D0 := hW147.here
                refine Lv_nil [.cell 2 4] [(.bool true)] rfl ⟨⟨⟨b1, 0, none⟩, by kernel_rfl, load_one (by kernel_rfl) (cell_obj o_x2 rfl)⟩, trivial⟩ ?_
                have e0 : true = true := by first | rfl | exact Eq.symm (by assumption)
                exact ⟨congrArg Value.bool e0, hb⟩
              · intro h148
                replace h148 : nn ≠ (sizeG xs) := by omega
                exfalso; exact h148 r5
            · intro h149
              replace h149 : (kk + 1) ≠ (gp).length := by omega
              exfalso; exact h149 (fin_len1 hr r1 r4 (by assumption))
          · intro h150
            replace h150 : (x117.2 + 1) ≠ 1114112 := by omega
            exfalso; exact h150 (fin_hi r1 r4 (by assumption))
      · intro h151
        replace h151 : (gp).length ≤ kk := by omega
        refine L_nil (thenQ_normal (W_false (by kernel_rfl) (W_skip (thenQ_normal (W_seq (W_pre 14 15 1 (by kernel_rfl) (by kernel_rfl) (by kernel_rfl) (by kernel_rfl) (by kernel_rfl) (by kernel_rfl) (by kernel_rfl) (Lq_load b4 0 (.int .i32 at_) (by kernel_rfl) (fun _ => by kernel_rfl) (cell_obj o_x3 rfl) (Lq_cmp .i32 at_ 1114112 (at_ = 1114112) rfl (cmp_eq at_ 1114112) (by kernel_rfl) (by kernel_rfl) ?_ ?_))))))))
        · intro h152
          replace h152 : at_ = 1114112 := by omega
          refine Lq_mv (Lq_want (by kernel_rfl) (Lq_load b35 0 (.int .i64 ((kk : Nat) : Int)) (by kernel_rfl) (fun _ => by kernel_rfl) (cell_obj o_x7 rfl) (Lq_want (by kernel_rfl) (Lq_load b14 0 v_x5_0 (by kernel_rfl) (fun _ => by kernel_rfl) (cell_obj o_x5 rfl) (Lq_want (by kernel_rfl) (Lq_len 22 29 (gp).length v_x5_0 rfl Try.underlying22 (r_x5_0.rd).len (by kernel_rfl) (Lq_want (by kernel_rfl) (Lq_cmp .i64 ((kk : Nat) : Int) (((gp).length : Nat) : Int) (kk = (gp).length) rfl (cmpN_eq kk ((gp).length)) (by kernel_rfl) (by kernel_rfl) ?_ ?_))))))))
          · intro h153
            replace h153 : kk = (gp).length := by omega
            refine Lq_pickT (by kernel_rfl) (Lq_mv (Lq_want (by kernel_rfl) (Lq_load b9 0 (.int .i64 nn) (by kernel_rfl) (fun _ => by kernel_rfl) (cell_obj o_x4 rfl) (Lq_want (by kernel_rfl) (Lq_mv (Lq_want (by kernel_rfl) (Lq_call 37 [(.pointer (some ⟨b_m, 0, none⟩))] (.int .i64 (sizeG xs)) (fun _ _ => by kernel_rfl) (fun wq hbq => c_size_I b_m v_xs xs wq (obj_below o_m hbq) (p_xs.below hbq) (by exact hr)) (Lq_want (by kernel_rfl) (Lq_cmp .i64 nn (sizeG xs) (nn = (sizeG xs)) rfl (cmp_eq nn (sizeG xs)) (by kernel_rfl) (by kernel_rfl) ?_ ?_)))))))))
            · intro h154
              replace h154 : nn = (sizeG xs) := by omega
              refine Lq_pickT (by kernel_rfl) (Lq_nil ?_)
              intro w155 hB156
              replace hb := hb.trans (hB156.mono hs)
              replace hs := Nat.le_trans hs (hB156.size)
              replace o_m := obj_below o_m hB156
              replace o_x2 := obj_below o_x2 hB156
              replace o_x3 := obj_below o_x3 hB156
              replace o_x4 := obj_below o_x4 hB156
              replace o_x5 := obj_below o_x5 hB156
              replace o_cb20 := obj_below o_cb20 hB156
              replace o_D0 := obj_below o_D0 hB156
              replace o_x7 := obj_below o_x7 hB156
              replace o_cb43 := obj_below o_cb43 hB156
              replace o_D1 := obj_below o_D1 hB156
              replace p_xs := p_xs.below hB156
              replace r_x5_0 := r_x5_0.below hB156
              refine I_all1 14 (by kernel_rfl) ?_
              refine I_op 14 rfl ?_ rfl
              refine L_store b1 0 (.bool true) [(.bool false)] [(.bool true)] 4 (by kernel_rfl) (by kernel_rfl) rfl (by kernel_rfl) o_x2 (by simp) rfl ?_
              intro w157 hW158
              replace hb := hb.trans (hW158.below g_x2)
              replace hs := Nat.le_trans hs (Nat.le_of_eq hW158.size.symm)
              have n_o_m := obj_wrote o_m hW158 (obj_ne o_m o_x2 (by simp))
              have n_o_x3 := obj_wrote o_x3 hW158 (obj_ne o_x3 o_x2 (by simp))
              have n_o_x4 := obj_wrote o_x4 hW158 (obj_ne o_x4 o_x2 (by simp))
              have n_o_x5 := obj_wrote o_x5 hW158 (obj_ne o_x5 o_x2 (by simp))
              have n_o_cb20 := obj_wrote o_cb20 hW158 (obj_ne o_cb20 o_x2 (by simp))
              have n_o_D0 := obj_wrote o_D0 hW158 (obj_ne o_D0 o_x2 (by simp))
              have n_o_x7 := obj_wrote o_x7 hW158 (obj_ne o_x7 o_x2 (by simp))
              have n_o_cb43 := obj_wrote o_cb43 hW158 (obj_ne o_cb43 o_x2 (by simp))
              have n_o_D1 := obj_wrote o_D1 hW158 (obj_ne o_D1 o_x2 (by simp))
              have n_p_xs := in_p_xs.below hb
              have n_r_x5_0 := r_x5_0.wrote hW158 (r_x5_0.ne o_x2 (by simp))
              replace o_m := n_o_m; clear n_o_m
              replace o_x3 := n_o_x3; clear n_o_x3
              replace o_x4 := n_o_x4; clear n_o_x4
              replace o_x5 := n_o_x5; clear n_o_x5
              replace o_cb20 := n_o_cb20; clear n_o_cb20
              replace o_D0 := n_o_D0; clear n_o_D0
              replace o_x7 := n_o_x7; clear n_o_x7
              replace o_cb43 := n_o_cb43; clear n_o_cb43
              replace o_D1 := n_o_D1; clear n_o_D1
              replace p_xs := n_p_xs; clear n_p_xs
              replace r_x5_0 := n_r_x5_0; clear n_r_x5_0
              replace o_x2 := hW158.here
              refine L_nil ?_
              refine ⟨rfl, ?_⟩
              refine I_done (by kernel_rfl) ?_
              refine thenQ_normal (W_ret (end_retM (ds := [⟨.collected w40.heap.size, #[]⟩, ⟨.collected w17.heap.size, #[]⟩]) (by kernel_rfl) (Lv_mark o_D1 ?_)))
              intro w159 hW160
              replace hb := hb.trans (hW160.below hs_1)
              replace hs := Nat.le_trans hs (Nat.le_of_eq hW160.size.symm)
              have n_o_m := obj_wrote o_m hW160 (obj_ne o_m o_D1 (by simp))
              have n_o_x2 := obj_wrote o_x2 hW160 (obj_ne o_x2 o_D1 (by simp))
              have n_o_x3 := obj_wrote o_x3 hW160 (obj_ne o_x3 o_D1 (by simp))
              have n_o_x4 := obj_wrote o_x4 hW160 (obj_ne o_x4 o_D1 (by simp))
              have n_o_x5 := obj_wrote o_x5 hW160 (obj_ne o_x5 o_D1 (by simp))
              have n_o_cb20 := obj_wrote o_cb20 hW160 (obj_ne o_cb20 o_D1 (by simp))
              have n_o_D0 := obj_wrote o_D0 hW160 ne_D0_D1
              have n_o_x7 := obj_wrote o_x7 hW160 (obj_ne o_x7 o_D1 (by simp))
              have n_o_cb43 := obj_wrote o_cb43 hW160 (obj_ne o_cb43 o_D1 (by simp))
              have n_p_xs := in_p_xs.below hb
              have n_r_x5_0 := r_x5_0.wrote hW160 (r_x5_0.ne o_D1 (by simp))
              replace o_m := n_o_m; clear n_o_m
              replace o_x2 := n_o_x2; clear n_o_x2
              replace o_x3 := n_o_x3; clear n_o_x3
              replace o_x4 := n_o_x4; clear n_o_x4
              replace o_x5 := n_o_x5; clear n_o_x5
              replace o_cb20 := n_o_cb20; clear n_o_cb20
              replace o_D0 := n_o_D0; clear n_o_D0
              replace o_x7 := n_o_x7; clear n_o_x7
              replace o_cb43 := n_o_cb43; clear n_o_cb43
              replace p_xs := n_p_xs; clear n_p_xs
              replace r_x5_0 := n_r_x5_0; clear n_r_x5_0
              replace o_D1 := hW160.here
              refine Lv_mark o_D0 ?_
              intro w161 hW162
              replace hb := hb.trans (hW162.below hs_0)
              replace hs := Nat.le_trans hs (Nat.le_of_eq hW162.size.symm)
              have n_o_m := obj_wrote o_m hW162 (obj_ne o_m o_D0 (by simp))
              have n_o_x2 := obj_wrote o_x2 hW162 (obj_ne o_x2 o_D0 (by simp))
              have n_o_x3 := obj_wrote o_x3 hW162 (obj_ne o_x3 o_D0 (by simp))
              have n_o_x4 := obj_wrote o_x4 hW162 (obj_ne o_x4 o_D0 (by simp))
              have n_o_x5 := obj_wrote o_x5 hW162 (obj_ne o_x5 o_D0 (by simp))
              have n_o_cb20 := obj_wrote o_cb20 hW162 (obj_ne o_cb20 o_D0 (by simp))
              have n_o_x7 := obj_wrote o_x7 hW162 (obj_ne o_x7 o_D0 (by simp))
              have n_o_cb43 := obj_wrote o_cb43 hW162 (obj_ne o_cb43 o_D0 (by simp))
              have n_o_D1 := obj_wrote o_D1 hW162 (obj_ne o_D1 o_D0 (by simp))
              have n_p_xs := in_p_xs.below hb
              have n_r_x5_0 := r_x5_0.wrote hW162 (r_x5_0.ne o_D0 (by simp))
              replace o_m := n_o_m; clear n_o_m
              replace o_x2 := n_o_x2; clear n_o_x2
              replace o_x3 := n_o_x3; clear n_o_x3
              replace o_x4 := n_o_x4; clear n_o_x4
              replace o_x5 := n_o_x5; clear n_o_x5
              replace o_cb20 := n_o_cb20; clear n_o_cb20
              replace o_x7 := n_o_x7; clear n_o_x7
              replace o_cb43 := n_o_cb43; clear n_o_cb43
              replace o_D1 := n_o_D1; clear n_o_D1
              replace p_xs := n_p_xs; clear n_p_xs
              replace r_x5_0 := n_r_x5_0; clear n_r_x5_0
              replace o_D0 := hW162.here
              refine Lv_nil [.cell 2 4] [(.bool true)] rfl ⟨⟨⟨b1, 0, none⟩, by kernel_rfl, load_one (by kernel_rfl) (cell_obj o_x2 rfl)⟩, trivial⟩ ?_
              have e0 : true = true := by first | rfl | exact Eq.symm (by assumption)
              exact ⟨congrArg Value.bool e0, hb⟩
            · intro h163
              replace h163 : nn ≠ (sizeG xs) := by omega
              exfalso; exact h163 r5
          · intro h164
            replace h164 : kk ≠ (gp).length := by omega
            exfalso; exact h164 (fin_len hr r1 r4 (by assumption))
        · intro h165
          replace h165 : at_ ≠ 1114112 := by omega
          exfalso; exact h165 (fin_at hr r1 r4 r3 (by assumption))
    · intro K c _ x A _ h; exact h.elim
  · intro K c _ x A _ h; exact h.elim

end Go.Proofs.Ythjgnnfonofgkaa
