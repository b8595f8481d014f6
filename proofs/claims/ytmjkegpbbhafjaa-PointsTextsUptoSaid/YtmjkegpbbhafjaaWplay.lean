/- Walks, written by my program walk.py out of the specification play.py: each theorem says what one function returns and that it leaves memory as it was. -/
import Derived.Test.YtmjkegpbbhafjaaPLay
import Derived.Test.YtmjkegpbbhafjaaWphex
import Derived.Test.YtmjkegpbbhafjaaWpmap
import Derived.Test.YtmjkegpbbhafjaaWprep
import Derived.Test.YtmjkegpbbhafjaaFKt
import Derived.Test.YtmjkegpbbhafjaaProg
import Derived.Tactics2
namespace Go.Proofs.Ytmjkegpbbhafjaa
open Go Go.RowKit Go.FK
set_option linter.unusedVariables false


set_option maxHeartbeats 4000000 in
set_option maxRecDepth 100000 in
theorem c_cut_S (b_m : Nat) (v_xs : Value) (xs : List (Int × Int × List UInt8)) (lo : Int) (hi : Int) (B_ : Nat) (w : World) (hs0 : B_ ≤ w.heap.size) (o_m : w.heap[b_m]? = some (.cells [v_xs, (.bool true)].toArray 150 (0, 0))) (g_m : B_ ≤ b_m) (p_xs : Row w B_ 152 3 encSpanS v_xs xs) (hl : xs.length ≤ 1000000) (hr : Rise xs) (hlo : -2147483648 ≤ lo ∧ lo ≤ 2147483647) (hhi : -2147483648 ≤ hi ∧ hi ≤ 2147483647) (hf : mayF lo hi = true → freeAt xs lo hi = true) :
    Calls Try.prog 102 #[(.pointer (some ⟨b_m, 0, none⟩)), (Value.agg #[(.int .i32 lo), (.int .i32 hi)])] w (Ret fun v w' => ∃ q0 : Value, v = (.tuple #[(.int .i64 0), (.int .i64 (layE lo hi))]) ∧ w'.heap[b_m]? = some (.cells [q0, (.bool true)].toArray 150 (0, 0)) ∧ Row w' B_ 152 3 encSpanS q0 xs ∧ (∀ g, Value.ownBlock q0 = some g → w.heap.size ≤ g ∨ (Dm b_m v_xs) g) ∧ Ch (Dm b_m v_xs) w w') := by
  refine enter (args := [(.pointer (some ⟨b_m, 0, none⟩)), (Value.agg #[(.int .i32 lo), (.int .i32 hi)])]) Try.func102 rfl (by kernel_rfl : _ = 111) (by kernel_rfl) ?_
  have hb := Below.refl B_ w
  have hs : B_ ≤ (World.heap w).size := hs0
  have hc := Ch.refl (Dm b_m v_xs) w
  have dk_m : (World.heap w).size ≤ b_m ∨ (Dm b_m v_xs) b_m := .inr (.inl rfl)
  have dr_p_xs : ∀ g, Value.ownBlock v_xs = some g → (World.heap w).size ≤ g ∨ (Dm b_m v_xs) g := fun g h => .inr (.inr h)
  refine W_seq (W_region (L_new (fun b => .pointer (some ⟨b, 0, none⟩)) (.cells [(.int .i32 lo), (.int .i32 hi)].toArray 29 (0, 0)) (by kernel_rfl) (by kernel_rfl) ?_))
  intro b1 w2 hN3
  have ne_m_x3 : b_m ≠ b1 := by have := obj_lt o_m; have := hN3.num; omega
  have ne_x3_m := ne_m_x3.symm
  have g_x3 : B_ ≤ b1 := by rw [hN3.num]; exact hs
  have dk_x3 : (World.heap w).size ≤ b1 ∨ (Dm b_m v_xs) b1 := .inl (by rw [hN3.num]; exact hc.size)
  replace hb := hb.trans (hN3.below.mono hs)
  replace hc := hc.trans2 (Ch.of_below hN3.below) (fun _ h => h.elim)
  replace hs := Nat.le_trans hs (hN3.below.size)
  replace o_m := obj_below o_m hN3.below
  replace p_xs := p_xs.below hN3.below
  have o_x3 := hN3.here
  refine L_as (L_as (L_nil (thenQ_normal (W_seq (W_block (W_seq (W_region (L_mv (L_call 86 [(.pointer (some ⟨b_m, 0, none⟩))] (by kernel_rfl) (by kernel_rfl) (c_none_S b_m v_xs xs _ o_m p_xs.rd) ?_)))))))))
  rintro _ w4 ⟨rfl, hB5⟩
  replace hb := hb.trans (hB5.mono hs)
  replace hc := hc.trans2 (Ch.of_below hB5) (fun _ h => h.elim)
  replace hs := Nat.le_trans hs (hB5.size)
  replace o_m := obj_below o_m hB5
  replace o_x3 := obj_below o_x3 hB5
  replace p_xs := p_xs.below hB5
  refine L_as (L_nil (thenQ_normal (W_false (by kernel_rfl) (W_seq (W_region (L_loadA b1 0 [(.int .i32 lo), (.int .i32 hi)] (by kernel_rfl) (by kernel_rfl) (by kernel_rfl) (cells_at o_x3 0 (by kernel_rfl)) (L_call 35 [(Value.agg #[(.int .i32 lo), (.int .i32 hi)])] (by kernel_rfl) (by kernel_rfl) (c_points_May lo hi _ ) ?_)))))))
  rintro _ w7 ⟨rfl, hB8⟩
  replace hb := hb.trans (hB8.mono hs)
  replace hc := hc.trans2 (Ch.of_below hB8) (fun _ h => h.elim)
  replace hs := Nat.le_trans hs (hB8.size)
  replace o_m := obj_below o_m hB8
  replace o_x3 := obj_below o_x3 hB8
  replace p_xs := p_xs.below hB8
  refine put_split (mayF lo hi) ?_ ?_
  · intro h10
    have hmb := mayF_b h10
    refine L_not true (by kernel_rfl) (L_as (L_nil (thenQ_normal (W_false (by kernel_rfl) (W_skip (blkQ_normal (thenQ_normal (W_seq (W_region (L_as (L_nil (thenQ_normal (W_seq (W_region (L_mv (L_run (.pointer (some ⟨b1, 0, none⟩)) (by kernel_rfl) (by kernel_rfl) (L_load b1 0 (.int .i32 lo) (by kernel_rfl) (by kernel_rfl) (cell_obj o_x3 rfl) (L_call 103 [(.pointer (some ⟨b_m, 0, none⟩)), (.int .i32 lo)] (by kernel_rfl) (by kernel_rfl) (c_from_S b_m v_xs xs lo _ o_m p_xs.rd (by omega) (by exact hr) (by omega)) ?_))))))))))))))))))
    rintro _ w11 ⟨rfl, hB12⟩
    replace hb := hb.trans (hB12.mono hs)
    replace hc := hc.trans2 (Ch.of_below hB12) (fun _ h => h.elim)
    replace hs := Nat.le_trans hs (hB12.size)
    replace o_m := obj_below o_m hB12
    replace o_x3 := obj_below o_x3 hB12
    replace p_xs := p_xs.below hB12
    have := fromF_le xs lo
    refine L_as (L_nil (thenQ_normal (W_seq (W_region (L_mv (L_as (L_nil (thenQ_normal (W_seq (W_region (L_as (L_nil (thenQ_normal (W_seq (W_block ?_)))))))))))))))
    refine W_loop (fun m s0 w0 => ∃ (j : Nat) (z : Int) (ys : List Sp) (v_9 : Value), (m = xs.length - j) ∧ (s0.ds = []) ∧ (s0.f 0 = (.pointer (some ⟨b_m, 0, none⟩))) ∧ (s0.f 3 = (.pointer (some ⟨b1, 0, none⟩))) ∧ (s0.f 4 = (.int .i64 0)) ∧ (s0.f 5 = (.int .i64 0)) ∧ (s0.f 7 = (.int .i64 (((fromF xs lo) : Nat) : Int))) ∧ (s0.f 6 = (.int .i64 z)) ∧ (s0.f 8 = (.int .i64 ((j : Nat) : Int))) ∧ (s0.f 9 = v_9) ∧ (Row w0 B_ 152 3 encSpanS v_xs xs) ∧ (Row w0 B_ 152 3 encSpanS v_9 ys) ∧ (w0.heap[b_m]? = some (.cells [v_xs, (.bool true)].toArray 150 (0, 0))) ∧ (w0.heap[b1]? = some (.cells [(.int .i32 lo), (.int .i32 hi)].toArray 29 (0, 0))) ∧ (Value.ownBlock v_xs = none ∨ Value.ownBlock v_xs ≠ Value.ownBlock v_9) ∧ (Below B_ w w0) ∧ (Ch (Dm b_m v_xs) w w0) ∧ (∀ g, Value.ownBlock v_9 = some g → (World.heap w).size ≤ g ∨ (Dm b_m v_xs) g) ∧ (B_ ≤ w0.heap.size) ∧ (j = fromF xs lo) ∧ (z = 0) ∧ (ys.length = 0)) _ ⟨(fromF xs lo), 0, [], (.slice none 0 0), rfl, by kernel_rfl, by kernel_rfl, by kernel_rfl, by kernel_rfl, by kernel_rfl, by kernel_rfl, by kernel_rfl, by kernel_rfl, by kernel_rfl, p_xs, Row.nil _ _ _ _ _, o_m, o_x3, ap_nil _, hb, hc, dr_nil _, hs, rfl, rfl, rfl⟩ ?_
    rintro m14 s15 w16 ⟨j, z, ys, v_9, hm, hds, f_0, f_3, f_4, f_5, f_7, f_6, f_8, f_9, p_xs, r_9, o_m, o_x3, ap_p_xs_r_9, hb, hc, dr_r_9, hs, i1, i2, i3⟩
    refine W_set 0 _ f_0 (W_set 3 _ f_3 (W_set 4 _ f_4 (W_set 5 _ f_5 (W_set 7 _ f_7 (W_set 6 _ f_6 (W_set 8 _ f_8 (W_set 9 _ f_9 ?_)))))))
    clear f_0 f_3 f_4 f_5 f_7 f_6 f_8 f_9
    have ap_r_9_p_xs := ap_comm ap_p_xs_r_9
    refine W_seq (W_seq (W_quiet (by kernel_rfl) (by kernel_rfl) (Lq_mv (Lq_mv (Lq_run (.pointer (some ⟨b_m, 0, none⟩)) (fun _ => by kernel_rfl) (Lq_run (.pointer (some ⟨b_m, 0, none⟩)) (fun _ => by kernel_rfl) (Lq_load b_m 0 v_xs (by kernel_rfl) (fun _ => by kernel_rfl) (cell_obj o_m rfl) (Lq_len 148 152 (xs).length v_xs rfl Try.underlying148 (p_xs.rd).len (by kernel_rfl) (Lq_cmp .i64 ((j : Nat) : Int) (((xs).length : Nat) : Int) (j < (xs).length) rfl (cmpN_lt j ((xs).length)) (by kernel_rfl) (by kernel_rfl) ?_ ?_)))))))))
    · intro h17
      replace h17 : j < (xs).length := by omega
      refine Lq_mv (Lq_want (by kernel_rfl) (Lq_mv (Lq_want (by kernel_rfl) (Lq_run (.pointer (some ⟨b_m, 0, none⟩)) (fun _ => by kernel_rfl) (Lq_want (by kernel_rfl) (Lq_run (.pointer (some ⟨b_m, 0, none⟩)) (fun _ => by kernel_rfl) (Lq_want (by kernel_rfl) (Lq_load b_m 0 v_xs (by kernel_rfl) (fun _ => by kernel_rfl) (cell_obj o_m rfl) (Lq_want (by kernel_rfl) (Lq_mv (Lq_want (by kernel_rfl) ?_)))))))))))
      have hz := get_some xs j (by omega); obtain ⟨x18, hx19⟩ := hz
      have hz := (p_xs.rd).at (k := 3) (fun _ => rfl) hx19
      obtain ⟨g20, off21, hl22, hc23⟩ := hz
      have hre := hr.at hx19
      refine Lq_ixaddr (k := .i64) v_xs j _ g20 off21 el148 hl22 (by omega) (by kernel_rfl) (by kernel_rfl) (Lq_want (by kernel_rfl) (Lq_run (.pointer (some ⟨g20, (off21 + j * 3), none⟩)) (fun _ => by kernel_rfl) (Lq_want (by kernel_rfl) (Lq_load g20 (off21 + j * 3) (.int .i32 x18.1) (by kernel_rfl) (fun _ => by kernel_rfl) (hc23 0 _ rfl) (Lq_want (by kernel_rfl) (Lq_run (.pointer (some ⟨b1, 1, none⟩)) (fun _ => by kernel_rfl) (Lq_want (by kernel_rfl) (Lq_load b1 1 (.int .i32 hi) (by kernel_rfl) (fun _ => by kernel_rfl) (cell_obj o_x3 rfl) (Lq_want (by kernel_rfl) (Lq_cmp .i32 x18.1 hi (x18.1 ≤ hi) rfl (cmp_le x18.1 hi) (by kernel_rfl) (by kernel_rfl) ?_ ?_))))))))))
      · intro h24
        replace h24 : x18.1 ≤ hi := by omega
        exfalso; have hz := freeAt_some (hf (by assumption)) (by rw [← i1]; assumption); omega
      · intro h25
        replace h25 : hi < x18.1 := by omega
        refine Lq_pickT (by kernel_rfl) (Lq_nil ?_)
        intro w26 hB27
        replace hb := hb.trans (hB27.mono hs)
        replace hc := hc.trans2 (Ch.of_below hB27) (fun _ h => h.elim)
        replace hs := Nat.le_trans hs (hB27.size)
        replace o_m := obj_below o_m hB27
        replace o_x3 := obj_below o_x3 hB27
        replace p_xs := p_xs.below hB27
        replace r_9 := r_9.below hB27
        refine thenQ_normal (W_false (by kernel_rfl) (W_exit (thenQ_exit (thenQ_exit (blkQ_exit (thenQ_normal (W_seq (W_region (L_mv (L_mv (L_run (.pointer (some ⟨b_m, 0, none⟩)) (by kernel_rfl) (by kernel_rfl) (L_run (.pointer (some ⟨b_m, 0, none⟩)) (by kernel_rfl) (by kernel_rfl) (L_load b_m 0 v_xs (by kernel_rfl) (by kernel_rfl) (cell_obj o_m rfl) (L_mv (L_mv (L_mv (L_call 104 [v_xs, (.int .i64 (((fromF xs lo) : Nat) : Int)), (.int .i64 ((j : Nat) : Int)), v_9] (by kernel_rfl) (by kernel_rfl) (c_replace_S B_ v_xs xs (fromF xs lo) j v_9 ys _ hs p_xs r_9.rd (by omega) (by omega) (by omega) (by omega) (by omega)) ?_)))))))))))))))))
        rintro q28 w29 ⟨_, rfl, r_q28, dm30, hC31⟩
        have dr_r_q28 := dr_call hc dm30 dr_p_xs
        replace hc := hc.trans2 hC31 (fun k e => dr_p_xs k e)
        replace hb := hC31.below hb hs (fun k e => (World.ownsRow.lt p_xs k e).1)
        replace hs := Nat.le_trans hs hC31.size
        have n_o_m := obj_ch_row o_m hC31 (p_xs.ne o_m (by simp))
        have n_o_x3 := obj_ch_row o_x3 hC31 (p_xs.ne o_x3 (by simp))
        have ap_r_9_r_q28 := ap_mutrow r_9 dm30 ap_r_9_p_xs; have ap_r_q28_r_9 := ap_comm ap_r_9_r_q28
        have n_r_9 := r_9.ch_row hC31 ap_r_9_p_xs
        replace o_m := n_o_m; clear n_o_m
        replace o_x3 := n_o_x3; clear n_o_x3
        replace r_9 := n_r_9; clear n_r_9
        refine L_run (.pointer (some ⟨b_m, 0, none⟩)) (by kernel_rfl) (by kernel_rfl) (L_run (.pointer (some ⟨b_m, 0, none⟩)) (by kernel_rfl) (by kernel_rfl) (L_store b_m 0 q28 [v_xs, (.bool true)] [q28, (.bool true)] 150 (by kernel_rfl) (by kernel_rfl) r_q28.one (by kernel_rfl) o_m (by simp) rfl ?_))
        intro w32 hW33
        replace hb := hb.trans (hW33.below g_m)
        replace hc := hc.trans2 (Ch.of_wrote hW33) (fun k e => e ▸ dk_m)
        replace hs := Nat.le_trans hs (Nat.le_of_eq hW33.size.symm)
        have n_o_x3 := obj_wrote o_x3 hW33 (obj_ne o_x3 o_m (by simp))
        have n_r_9 := r_9.wrote hW33 (r_9.ne o_m (by simp))
        have n_r_q28 := r_q28.wrote hW33 (r_q28.ne o_m (by simp))
        replace o_x3 := n_o_x3; clear n_o_x3
        replace r_9 := n_r_9; clear n_r_9
        replace r_q28 := n_r_q28; clear n_r_q28
        replace o_m := hW33.here
        refine L_nil (thenQ_normal (W_seq (W_region (L_mv (L_as (L_as (L_nil (thenQ_normal (W_ret ?_)))))))))
        refine end_ret [.tmp 4, .tmp 5] [(.int .i64 z), (.int .i64 0)] rfl hds ⟨by kernel_rfl, by kernel_rfl, trivial⟩ ?_
        have hE : ((z : Int) = 0) ∧ ((0 : Int) = (layE lo hi)) ∧ ((List.take (fromF xs lo) xs ++ ys ++ List.drop j xs) = xs) := ⟨(by first | rfl | exact i2 | (rw [layE, if_pos (by assumption)]; done) | (rw [layE, if_neg (by simp [*])]; done) | exact rep_id (by omega) (by omega)), (by first | rfl | exact i2 | (rw [layE, if_pos (by assumption)]; done) | (rw [layE, if_neg (by simp [*])]; done) | exact rep_id (by omega) (by omega)), (by first | rfl | exact i2 | (rw [layE, if_pos (by assumption)]; done) | (rw [layE, if_neg (by simp [*])]; done) | exact rep_id (by omega) (by omega))⟩
        exact ⟨_, tup2 (congrArg (Value.int .i64) hE.1) (congrArg (Value.int .i64) hE.2.1), o_m, r_q28.cast hE.2.2, dr_r_q28, hc⟩
    · intro h34
      replace h34 : (xs).length ≤ j := by omega
      refine Lq_mv (Lq_skip (by kernel_rfl) (Lq_skip (by kernel_rfl) (Lq_skip (by kernel_rfl) (Lq_skip (by kernel_rfl) (Lq_skip (by kernel_rfl) (Lq_skip (by kernel_rfl) (Lq_skip (by kernel_rfl) (Lq_skip (by kernel_rfl) (Lq_skip (by kernel_rfl) (Lq_skip (by kernel_rfl) (Lq_skip (by kernel_rfl) (Lq_pickF (by kernel_rfl) (Lq_nil ?_)))))))))))))
      intro w35 hB36
      replace hb := hb.trans (hB36.mono hs)
      replace hc := hc.trans2 (Ch.of_below hB36) (fun _ h => h.elim)
      replace hs := Nat.le_trans hs (hB36.size)
      replace o_m := obj_below o_m hB36
      replace o_x3 := obj_below o_x3 hB36
      replace p_xs := p_xs.below hB36
      replace r_9 := r_9.below hB36
      refine thenQ_normal (W_false (by kernel_rfl) (W_exit (thenQ_exit (thenQ_exit (blkQ_exit (thenQ_normal (W_seq (W_region (L_mv (L_mv (L_run (.pointer (some ⟨b_m, 0, none⟩)) (by kernel_rfl) (by kernel_rfl) (L_run (.pointer (some ⟨b_m, 0, none⟩)) (by kernel_rfl) (by kernel_rfl) (L_load b_m 0 v_xs (by kernel_rfl) (by kernel_rfl) (cell_obj o_m rfl) (L_mv (L_mv (L_mv (L_call 104 [v_xs, (.int .i64 (((fromF xs lo) : Nat) : Int)), (.int .i64 ((j : Nat) : Int)), v_9] (by kernel_rfl) (by kernel_rfl) (c_replace_S B_ v_xs xs (fromF xs lo) j v_9 ys _ hs p_xs r_9.rd (by omega) (by omega) (by omega) (by omega) (by omega)) ?_)))))))))))))))))
      rintro q37 w38 ⟨_, rfl, r_q37, dm39, hC40⟩
      have dr_r_q37 := dr_call hc dm39 dr_p_xs
      replace hc := hc.trans2 hC40 (fun k e => dr_p_xs k e)
      replace hb := hC40.below hb hs (fun k e => (World.ownsRow.lt p_xs k e).1)
      replace hs := Nat.le_trans hs hC40.size
      have n_o_m := obj_ch_row o_m hC40 (p_xs.ne o_m (by simp))
      have n_o_x3 := obj_ch_row o_x3 hC40 (p_xs.ne o_x3 (by simp))
      have ap_r_9_r_q37 := ap_mutrow r_9 dm39 ap_r_9_p_xs; have ap_r_q37_r_9 := ap_comm ap_r_9_r_q37
      have n_r_9 := r_9.ch_row hC40 ap_r_9_p_xs
      replace o_m := n_o_m; clear n_o_m
      replace o_x3 := n_o_x3; clear n_o_x3
      replace r_9 := n_r_9; clear n_r_9
      refine L_run (.pointer (some ⟨b_m, 0, none⟩)) (by kernel_rfl) (by kernel_rfl) (L_run (.pointer (some ⟨b_m, 0, none⟩)) (by kernel_rfl) (by kernel_rfl) (L_store b_m 0 q37 [v_xs, (.bool true)] [q37, (.bool true)] 150 (by kernel_rfl) (by kernel_rfl) r_q37.one (by kernel_rfl) o_m (by simp) rfl ?_))
      intro w41 hW42
      replace hb := hb.trans (hW42.below g_m)
      replace hc := hc.trans2 (Ch.of_wrote hW42) (fun k e => e ▸ dk_m)
      replace hs := Nat.le_trans hs (Nat.le_of_eq hW42.size.symm)
      have n_o_x3 := obj_wrote o_x3 hW42 (obj_ne o_x3 o_m (by simp))
      have n_r_9 := r_9.wrote hW42 (r_9.ne o_m (by simp))
      have n_r_q37 := r_q37.wrote hW42 (r_q37.ne o_m (by simp))
      replace o_x3 := n_o_x3; clear n_o_x3
      replace r_9 := n_r_9; clear n_r_9
      replace r_q37 := n_r_q37; clear n_r_q37
      replace o_m := hW42.here
      refine L_nil (thenQ_normal (W_seq (W_region (L_mv (L_as (L_as (L_nil (thenQ_normal (W_ret ?_)))))))))
      refine end_ret [.tmp 4, .tmp 5] [(.int .i64 z), (.int .i64 0)] rfl hds ⟨by kernel_rfl, by kernel_rfl, trivial⟩ ?_
      have hE : ((z : Int) = 0) ∧ ((0 : Int) = (layE lo hi)) ∧ ((List.take (fromF xs lo) xs ++ ys ++ List.drop j xs) = xs) := ⟨(by first | rfl | exact i2 | (rw [layE, if_pos (by assumption)]; done) | (rw [layE, if_neg (by simp [*])]; done) | exact rep_id (by omega) (by omega)), (by first | rfl | exact i2 | (rw [layE, if_pos (by assumption)]; done) | (rw [layE, if_neg (by simp [*])]; done) | exact rep_id (by omega) (by omega)), (by first | rfl | exact i2 | (rw [layE, if_pos (by assumption)]; done) | (rw [layE, if_neg (by simp [*])]; done) | exact rep_id (by omega) (by omega))⟩
      exact ⟨_, tup2 (congrArg (Value.int .i64) hE.1) (congrArg (Value.int .i64) hE.2.1), o_m, r_q37.cast hE.2.2, dr_r_q37, hc⟩
  · intro h43
    refine L_not false (by kernel_rfl) (L_as (L_nil (thenQ_normal (W_true (by kernel_rfl) (W_seq (W_region (L_as (L_as (L_nil (thenQ_normal (W_ret (blkQ_ret (thenQ_ret ?_)))))))))))))
    refine end_ret [.tmp 4, .tmp 5] [(.int .i64 0), (.int .i64 41)] rfl rfl ⟨by kernel_rfl, by kernel_rfl, trivial⟩ ?_
    have hE : ((0 : Int) = 0) ∧ ((41 : Int) = (layE lo hi)) ∧ (xs = xs) := ⟨(by first | rfl | exact i2 | (rw [layE, if_pos (by assumption)]; done) | (rw [layE, if_neg (by simp [*])]; done) | exact rep_id (by omega) (by omega)), (by first | rfl | exact i2 | (rw [layE, if_pos (by assumption)]; done) | (rw [layE, if_neg (by simp [*])]; done) | exact rep_id (by omega) (by omega)), (by first | rfl | exact i2 | (rw [layE, if_pos (by assumption)]; done) | (rw [layE, if_neg (by simp [*])]; done) | exact rep_id (by omega) (by omega))⟩
    exact ⟨_, tup2 (congrArg (Value.int .i64) hE.1) (congrArg (Value.int .i64) hE.2.1), o_m, p_xs.cast hE.2.2, dr_p_xs, hc⟩

set_option maxHeartbeats 4000000 in
set_option maxRecDepth 100000 in
theorem c_lay_S (b_m : Nat) (v_xs : Value) (xs : List (Int × Int × List UInt8)) (lo : Int) (hi : Int) (val : List UInt8) (B_ : Nat) (w : World) (hs0 : B_ ≤ w.heap.size) (o_m : w.heap[b_m]? = some (.cells [v_xs, (.bool true)].toArray 150 (0, 0))) (g_m : B_ ≤ b_m) (p_xs : Row w B_ 152 3 encSpanS v_xs xs) (hl : xs.length ≤ 1000000) (hr : Rise xs) (hlo : -2147483648 ≤ lo ∧ lo ≤ 2147483647) (hhi : -2147483648 ≤ hi ∧ hi ≤ 2147483647) (hf : mayF lo hi = true → freeAt xs lo hi = true) (hk : mayF lo hi = true → layOk xs lo hi val = true) :
    Calls Try.prog 58 #[(.pointer (some ⟨b_m, 0, none⟩)), (Value.agg #[(.int .i32 lo), (.int .i32 hi)]), (S val)] w (Ret fun v w' => ∃ q0 : Value, v = (.int .i64 (layE lo hi)) ∧ w'.heap[b_m]? = some (.cells [q0, (.bool true)].toArray 150 (0, 0)) ∧ Row w' B_ 152 3 encSpanS q0 (layF xs lo hi val) ∧ (∀ g, Value.ownBlock q0 = some g → w.heap.size ≤ g ∨ (Dm b_m v_xs) g) ∧ Ch (Dm b_m v_xs) w w') := by
  refine enter (args := [(.pointer (some ⟨b_m, 0, none⟩)), (Value.agg #[(.int .i32 lo), (.int .i32 hi)]), (S val)]) Try.func58 rfl (by kernel_rfl : _ = 128) (by kernel_rfl) ?_
  have hb := Below.refl B_ w
  have hs : B_ ≤ (World.heap w).size := hs0
  have hc := Ch.refl (Dm b_m v_xs) w
  have dk_m : (World.heap w).size ≤ b_m ∨ (Dm b_m v_xs) b_m := .inr (.inl rfl)
  have dr_p_xs : ∀ g, Value.ownBlock v_xs = some g → (World.heap w).size ≤ g ∨ (Dm b_m v_xs) g := fun g h => .inr (.inr h)
  refine W_seq (W_region (L_new (fun b => .pointer (some ⟨b, 0, none⟩)) (.cells [(.int .i32 lo), (.int .i32 hi)].toArray 29 (0, 0)) (by kernel_rfl) (by kernel_rfl) ?_))
  intro b1 w2 hN3
  have ne_m_x4 : b_m ≠ b1 := by have := obj_lt o_m; have := hN3.num; omega
  have ne_x4_m := ne_m_x4.symm
  have g_x4 : B_ ≤ b1 := by rw [hN3.num]; exact hs
  have dk_x4 : (World.heap w).size ≤ b1 ∨ (Dm b_m v_xs) b1 := .inl (by rw [hN3.num]; exact hc.size)
  replace hb := hb.trans (hN3.below.mono hs)
  replace hc := hc.trans2 (Ch.of_below hN3.below) (fun _ h => h.elim)
  replace hs := Nat.le_trans hs (hN3.below.size)
  replace o_m := obj_below o_m hN3.below
  replace p_xs := p_xs.below hN3.below
  have o_x4 := hN3.here
  refine L_as (L_nil (thenQ_normal (W_seq (W_block (W_seq (W_region (L_mv (L_call 86 [(.pointer (some ⟨b_m, 0, none⟩))] (by kernel_rfl) (by kernel_rfl) (c_none_S b_m v_xs xs _ o_m p_xs.rd) ?_))))))))
  rintro _ w4 ⟨rfl, hB5⟩
  replace hb := hb.trans (hB5.mono hs)
  replace hc := hc.trans2 (Ch.of_below hB5) (fun _ h => h.elim)
  replace hs := Nat.le_trans hs (hB5.size)
  replace o_m := obj_below o_m hB5
  replace o_x4 := obj_below o_x4 hB5
  replace p_xs := p_xs.below hB5
  refine L_as (L_nil (thenQ_normal (W_false (by kernel_rfl) (W_seq (W_region (L_loadA b1 0 [(.int .i32 lo), (.int .i32 hi)] (by kernel_rfl) (by kernel_rfl) (by kernel_rfl) (cells_at o_x4 0 (by kernel_rfl)) (L_call 35 [(Value.agg #[(.int .i32 lo), (.int .i32 hi)])] (by kernel_rfl) (by kernel_rfl) (c_points_May lo hi _ ) ?_)))))))
  rintro _ w7 ⟨rfl, hB8⟩
  replace hb := hb.trans (hB8.mono hs)
  replace hc := hc.trans2 (Ch.of_below hB8) (fun _ h => h.elim)
  replace hs := Nat.le_trans hs (hB8.size)
  replace o_m := obj_below o_m hB8
  replace o_x4 := obj_below o_x4 hB8
  replace p_xs := p_xs.below hB8
  refine put_split (mayF lo hi) ?_ ?_
  · intro h10
    have hmb := mayF_b h10
    refine L_not true (by kernel_rfl) (L_as (L_nil (thenQ_normal (W_false (by kernel_rfl) (W_skip (blkQ_normal (thenQ_normal (W_seq (W_region (L_mv (L_loadA b1 0 [(.int .i32 lo), (.int .i32 hi)] (by kernel_rfl) (by kernel_rfl) (by kernel_rfl) (cells_at o_x4 0 (by kernel_rfl)) (L_call 102 [(.pointer (some ⟨b_m, 0, none⟩)), (Value.agg #[(.int .i32 lo), (.int .i32 hi)])] (by kernel_rfl) (by kernel_rfl) (c_cut_S b_m v_xs xs lo hi B_ _ hs o_m g_m p_xs (by omega) (by exact hr) (by omega) (by omega) (by exact hf)) ?_))))))))))))
    rintro _ w12 ⟨q11, rfl, ho15, r_q11, dm13, hC14⟩
    have dr_r_q11 : ∀ g, Value.ownBlock q11 = some g → (World.heap w).size ≤ g ∨ (Dm b_m v_xs) g := fun g hg => (dm13 g hg).elim (fun x => .inl (Nat.le_trans hc.size x)) (fun x => x.elim (fun x => x ▸ dk_m) (fun x => dr_p_xs g x))
    replace hc := hc.trans2 hC14 (fun k e => e.elim (fun x => x ▸ dk_m) (fun x => dr_p_xs k x))
    replace hb := hC14.below hb hs (fun k e => e.elim (fun x => x ▸ g_m) (fun x => (World.ownsRow.lt p_xs k x).1))
    replace hs := Nat.le_trans hs hC14.size
    have n_o_x4 := obj_ch_mut o_x4 hC14 (obj_ne o_x4 o_m (by simp)) (p_xs.ne o_x4 (by simp))
    replace o_x4 := n_o_x4; clear n_o_x4
    replace o_m := ho15
    refine L_nil (thenQ_normal (W_seq (W_region (L_run (.pointer (some ⟨b1, 0, none⟩)) (by kernel_rfl) (by kernel_rfl) (L_load b1 0 (.int .i32 lo) (by kernel_rfl) (by kernel_rfl) (cell_obj o_x4 rfl) (L_run (.pointer (some ⟨b1, 1, none⟩)) (by kernel_rfl) (by kernel_rfl) (L_load b1 1 (.int .i32 hi) (by kernel_rfl) (by kernel_rfl) (cell_obj o_x4 rfl) (L_mv (L_run (Value.agg #[(.int .i32 lo), (.int .i32 hi), (S val)]) (by kernel_rfl) (by kernel_rfl) (L_new (fun b => .pointer (some ⟨b, 0, none⟩)) (.cells [(.int .i32 0), (.int .i32 0), (S ([] : List UInt8))].toArray 152 (0, 0)) (by kernel_rfl) (by kernel_rfl) ?_))))))))))
    intro b16 w17 hN18
    have ne_m_x7 : b_m ≠ b16 := by have := obj_lt o_m; have := hN18.num; omega
    have ne_x7_m := ne_m_x7.symm
    have ne_x4_x7 : b1 ≠ b16 := by have := obj_lt o_x4; have := hN18.num; omega
    have ne_x7_x4 := ne_x4_x7.symm
    have g_x7 : B_ ≤ b16 := by rw [hN18.num]; exact hs
    have dk_x7 : (World.heap w).size ≤ b16 ∨ (Dm b_m v_xs) b16 := .inl (by rw [hN18.num]; exact hc.size)
    have nb_o_x7_r_q11 := r_q11.new_ne hN18
    replace hb := hb.trans (hN18.below.mono hs)
    replace hc := hc.trans2 (Ch.of_below hN18.below) (fun _ h => h.elim)
    replace hs := Nat.le_trans hs (hN18.below.size)
    replace o_m := obj_below o_m hN18.below
    replace o_x4 := obj_below o_x4 hN18.below
    replace r_q11 := r_q11.below hN18.below
    have o_x7 := hN18.here
    refine L_storeA b16 0 [(.int .i32 lo), (.int .i32 hi), (S val)] [(.int .i32 0), (.int .i32 0), (S ([] : List UInt8))] [(.int .i32 lo), (.int .i32 hi), (S val)] 152 (by kernel_rfl) (by kernel_rfl) rfl (by kernel_rfl) o_x7 (by kernel_rfl) rfl ?_
    intro w19 hW20
    replace hb := hb.trans (hW20.below g_x7)
    replace hc := hc.trans2 (Ch.of_wrote hW20) (fun k e => e ▸ dk_x7)
    replace hs := Nat.le_trans hs (Nat.le_of_eq hW20.size.symm)
    have n_o_m := obj_wrote o_m hW20 (obj_ne o_m o_x7 (by simp))
    have n_o_x4 := obj_wrote o_x4 hW20 (obj_ne o_x4 o_x7 (by simp))
    have n_r_q11 := r_q11.wrote hW20 nb_o_x7_r_q11
    replace o_m := n_o_m; clear n_o_m
    replace o_x4 := n_o_x4; clear n_o_x4
    replace r_q11 := n_r_q11; clear n_r_q11
    replace o_x7 := hW20.here
    refine L_nil (thenQ_normal (W_seq (W_region (L_mv (L_run (.pointer (some ⟨b1, 0, none⟩)) (by kernel_rfl) (by kernel_rfl) (L_load b1 0 (.int .i32 lo) (by kernel_rfl) (by kernel_rfl) (cell_obj o_x4 rfl) (L_call 103 [(.pointer (some ⟨b_m, 0, none⟩)), (.int .i32 lo)] (by kernel_rfl) (by kernel_rfl) (c_from_S b_m q11 xs lo _ o_m r_q11.rd (by omega) (by exact hr) (by omega)) ?_)))))))
    rintro _ w21 ⟨rfl, hB22⟩
    replace hb := hb.trans (hB22.mono hs)
    replace hc := hc.trans2 (Ch.of_below hB22) (fun _ h => h.elim)
    replace hs := Nat.le_trans hs (hB22.size)
    replace o_m := obj_below o_m hB22
    replace o_x4 := obj_below o_x4 hB22
    replace o_x7 := obj_below o_x7 hB22
    replace r_q11 := r_q11.below hB22
    have := fromF_le xs lo
    refine L_as (L_nil (thenQ_normal (W_seq (W_region (L_mv (L_as (L_nil (thenQ_normal ?_))))))))
    refine W_cut (fun s0 w0 => ∃ (a : Nat) (p : Int), (s0.ds = []) ∧ (s0.f 0 = (.pointer (some ⟨b_m, 0, none⟩))) ∧ (s0.f 2 = (S val)) ∧ (s0.f 6 = (.int .i64 0)) ∧ (s0.f 7 = (.pointer (some ⟨b16, 0, none⟩))) ∧ (s0.f 9 = (.int .i64 (((fromF xs lo) : Nat) : Int))) ∧ (s0.f 8 = (.int .i64 ((a : Nat) : Int))) ∧ (Row w0 B_ 152 3 encSpanS q11 xs) ∧ (w0.heap[b_m]? = some (.cells [q11, (.bool true)].toArray 150 (0, 0))) ∧ (w0.heap[b1]? = some (.cells [(.int .i32 lo), (.int .i32 hi)].toArray 29 (0, 0))) ∧ (w0.heap[b16]? = some (.cells [(.int .i32 p), (.int .i32 hi), (S val)].toArray 152 (0, 0))) ∧ (Below B_ w w0) ∧ (Ch (Dm b_m v_xs) w w0) ∧ (B_ ≤ w0.heap.size) ∧ (leftF xs lo val = (a, p)) ∧ (a ≤ fromF xs lo)) ?_ ?_
    · refine W_seq (W_quiet (by kernel_rfl) (by kernel_rfl) (Lq_mv (Lq_cmp .i64 (((fromF xs lo) : Nat) : Int) ((0 : Nat) : Int) (0 < (fromF xs lo)) rfl (cmpN_gt (fromF xs lo) 0) (by kernel_rfl) (by kernel_rfl) ?_ ?_)))
      · intro h24
        replace h24 : 0 < (fromF xs lo) := by omega
        refine Lq_mv (Lq_want (by kernel_rfl) (Lq_mv (Lq_want (by kernel_rfl) (Lq_run (.pointer (some ⟨b_m, 0, none⟩)) (fun _ => by kernel_rfl) (Lq_want (by kernel_rfl) (Lq_run (.pointer (some ⟨b_m, 0, none⟩)) (fun _ => by kernel_rfl) (Lq_want (by kernel_rfl) (Lq_load b_m 0 q11 (by kernel_rfl) (fun _ => by kernel_rfl) (cell_obj o_m rfl) (Lq_want (by kernel_rfl) (Lq_mv (Lq_want (by kernel_rfl) (Lq_subN (fromF xs lo) 1 (by omega) (by omega) (by kernel_rfl) (by kernel_rfl) (Lq_want (by kernel_rfl) ?_)))))))))))))
        have hz := get_some xs ((fromF xs lo) - 1) (by omega); obtain ⟨x25, hx26⟩ := hz
        have hz := (r_q11.rd).at (k := 3) (fun _ => rfl) hx26
        obtain ⟨g27, off28, hl29, hc30⟩ := hz
        have hre := hr.at hx26
        refine Lq_ixaddr (k := .i64) q11 ((fromF xs lo) - 1) _ g27 off28 el148 hl29 (by omega) (by kernel_rfl) (by kernel_rfl) (Lq_want (by kernel_rfl) (Lq_run (.pointer (some ⟨g27, ((off28 + ((fromF xs lo) - 1) * 3) + 1), none⟩)) (fun _ => by kernel_rfl) (Lq_want (by kernel_rfl) (Lq_load g27 ((off28 + ((fromF xs lo) - 1) * 3) + 1) (.int .i32 x25.2.1) (by kernel_rfl) (fun _ => by kernel_rfl) (hc30 1 _ rfl) (Lq_want (by kernel_rfl) (Lq_arith x25.2.1 1 (x25.2.1 + 1) rfl (by kernel_rfl) (by kernel_rfl) (wrap_i32 _ (by simp only [arithZ]; omega) (by simp only [arithZ]; omega)) (Lq_want (by kernel_rfl) (Lq_run (.pointer (some ⟨b16, 0, none⟩)) (fun _ => by kernel_rfl) (Lq_want (by kernel_rfl) (Lq_load b16 0 (.int .i32 lo) (by kernel_rfl) (fun _ => by kernel_rfl) (cell_obj o_x7 rfl) (Lq_want (by kernel_rfl) (Lq_cmp .i32 (x25.2.1 + 1) lo ((x25.2.1 + 1) = lo) rfl (cmp_eq (x25.2.1 + 1) lo) (by kernel_rfl) (by kernel_rfl) ?_ ?_))))))))))))
        · intro h31
          replace h31 : (x25.2.1 + 1) = lo := by omega
          refine Lq_pickT (by kernel_rfl) (Lq_mv (Lq_want (by kernel_rfl) (Lq_mv (Lq_want (by kernel_rfl) (Lq_run (.pointer (some ⟨b_m, 0, none⟩)) (fun _ => by kernel_rfl) (Lq_want (by kernel_rfl) (Lq_run (.pointer (some ⟨b_m, 0, none⟩)) (fun _ => by kernel_rfl) (Lq_want (by kernel_rfl) (Lq_load b_m 0 q11 (by kernel_rfl) (fun _ => by kernel_rfl) (cell_obj o_m rfl) (Lq_want (by kernel_rfl) (Lq_mv (Lq_want (by kernel_rfl) (Lq_subN (fromF xs lo) 1 (by omega) (by omega) (by kernel_rfl) (by kernel_rfl) (Lq_want (by kernel_rfl) ?_))))))))))))))
          have hz := (r_q11.rd).at (k := 3) (fun _ => rfl) hx26
          obtain ⟨g34, off35, hl36, hc37⟩ := hz
          refine Lq_ixaddr (k := .i64) q11 ((fromF xs lo) - 1) _ g34 off35 el148 hl36 (by omega) (by kernel_rfl) (by kernel_rfl) (Lq_want (by kernel_rfl) (Lq_run (.pointer (some ⟨g34, ((off35 + ((fromF xs lo) - 1) * 3) + 2), none⟩)) (fun _ => by kernel_rfl) (Lq_want (by kernel_rfl) (Lq_load g34 ((off35 + ((fromF xs lo) - 1) * 3) + 2) (S x25.2.2) (by kernel_rfl) (fun _ => by kernel_rfl) (hc37 2 _ rfl) (Lq_want (by kernel_rfl) (Lq_mv (Lq_want (by kernel_rfl) (Lq_seq x25.2.2 val rfl (by kernel_rfl) (by kernel_rfl) ?_ ?_))))))))
          · intro h38
            refine Lq_pickT (by kernel_rfl) (Lq_nil ?_)
            intro w39 hB40
            replace hb := hb.trans (hB40.mono hs)
            replace hc := hc.trans2 (Ch.of_below hB40) (fun _ h => h.elim)
            replace hs := Nat.le_trans hs (hB40.size)
            replace o_m := obj_below o_m hB40
            replace o_x4 := obj_below o_x4 hB40
            replace o_x7 := obj_below o_x7 hB40
            replace r_q11 := r_q11.below hB40
            refine thenQ_normal (W_true (by kernel_rfl) (W_seq (W_region (L_mv (L_subN (fromF xs lo) 1 (by omega) (by omega) (by kernel_rfl) (by kernel_rfl) (L_as (L_nil (thenQ_normal (W_region (L_mv (L_run (.pointer (some ⟨b_m, 0, none⟩)) (by kernel_rfl) (by kernel_rfl) (L_run (.pointer (some ⟨b_m, 0, none⟩)) (by kernel_rfl) (by kernel_rfl) (L_load b_m 0 q11 (by kernel_rfl) (by kernel_rfl) (cell_obj o_m rfl) (L_mv ?_))))))))))))))
            have hz := (r_q11.rd).at (k := 3) (fun _ => rfl) hx26
            obtain ⟨g43, off44, hl45, hc46⟩ := hz
            refine L_ixaddr (k := .i64) q11 ((fromF xs lo) - 1) _ g43 off44 el148 hl45 (by omega) (by kernel_rfl) (by kernel_rfl) (L_run (.pointer (some ⟨g43, (off44 + ((fromF xs lo) - 1) * 3), none⟩)) (by kernel_rfl) (by kernel_rfl) (L_load g43 (off44 + ((fromF xs lo) - 1) * 3) (.int .i32 x25.1) (by kernel_rfl) (by kernel_rfl) (hc46 0 _ rfl) (L_run (.pointer (some ⟨b16, 0, none⟩)) (by kernel_rfl) (by kernel_rfl) (L_store b16 0 (.int .i32 x25.1) [(.int .i32 lo), (.int .i32 hi), (S val)] [(.int .i32 x25.1), (.int .i32 hi), (S val)] 152 (by kernel_rfl) (by kernel_rfl) rfl (by kernel_rfl) o_x7 (by simp) rfl ?_))))
            intro w47 hW48
            replace hb := hb.trans (hW48.below g_x7)
            replace hc := hc.trans2 (Ch.of_wrote hW48) (fun k e => e ▸ dk_x7)
            replace hs := Nat.le_trans hs (Nat.le_of_eq hW48.size.symm)
            have n_o_m := obj_wrote o_m hW48 (obj_ne o_m o_x7 (by simp))
            have n_o_x4 := obj_wrote o_x4 hW48 (obj_ne o_x4 o_x7 (by simp))
            have n_r_q11 := r_q11.wrote hW48 nb_o_x7_r_q11
            replace o_m := n_o_m; clear n_o_m
            replace o_x4 := n_o_x4; clear n_o_x4
            replace r_q11 := n_r_q11; clear n_r_q11
            replace o_x7 := hW48.here
            refine L_nil ?_
            refine thenQ_normal ⟨((fromF xs lo) - 1), x25.1, rfl, by kernel_rfl, by kernel_rfl, by kernel_rfl, by kernel_rfl, by kernel_rfl, by kernel_rfl, r_q11, o_m, o_x4, o_x7, hb, hc, hs, ?_, ?_⟩
            · first | exact left_zero (by omega) | exact left_no (by omega) (by assumption) (.inl (by omega)) | exact left_no (by omega) (by assumption) (.inr (by assumption)) | exact left_yes (by omega) (by assumption) (by omega) (by assumption)
            · omega
          · intro h49
            refine Lq_pickT (by kernel_rfl) (Lq_nil ?_)
            intro w50 hB51
            replace hb := hb.trans (hB51.mono hs)
            replace hc := hc.trans2 (Ch.of_below hB51) (fun _ h => h.elim)
            replace hs := Nat.le_trans hs (hB51.size)
            replace o_m := obj_below o_m hB51
            replace o_x4 := obj_below o_x4 hB51
            replace o_x7 := obj_below o_x7 hB51
            replace r_q11 := r_q11.below hB51
            refine thenQ_normal (W_false (by kernel_rfl) (W_skip ?_))
            refine thenQ_normal ⟨(fromF xs lo), lo, rfl, by kernel_rfl, by kernel_rfl, by kernel_rfl, by kernel_rfl, by kernel_rfl, by kernel_rfl, r_q11, o_m, o_x4, o_x7, hb, hc, hs, ?_, ?_⟩
            · first | exact left_zero (by omega) | exact left_no (by omega) (by assumption) (.inl (by omega)) | exact left_no (by omega) (by assumption) (.inr (by assumption)) | exact left_yes (by omega) (by assumption) (by omega) (by assumption)
            · omega
        · intro h52
          replace h52 : (x25.2.1 + 1) ≠ lo := by omega
          refine Lq_pickT (by kernel_rfl) (Lq_mv (Lq_skip (by kernel_rfl) (Lq_skip (by kernel_rfl) (Lq_skip (by kernel_rfl) (Lq_skip (by kernel_rfl) (Lq_skip (by kernel_rfl) (Lq_skip (by kernel_rfl) (Lq_skip (by kernel_rfl) (Lq_skip (by kernel_rfl) (Lq_skip (by kernel_rfl) (Lq_skip (by kernel_rfl) (Lq_skip (by kernel_rfl) (Lq_pickF (by kernel_rfl) (Lq_nil ?_))))))))))))))
          intro w53 hB54
          replace hb := hb.trans (hB54.mono hs)
          replace hc := hc.trans2 (Ch.of_below hB54) (fun _ h => h.elim)
          replace hs := Nat.le_trans hs (hB54.size)
          replace o_m := obj_below o_m hB54
          replace o_x4 := obj_below o_x4 hB54
          replace o_x7 := obj_below o_x7 hB54
          replace r_q11 := r_q11.below hB54
          refine thenQ_normal (W_false (by kernel_rfl) (W_skip ?_))
          refine thenQ_normal ⟨(fromF xs lo), lo, rfl, by kernel_rfl, by kernel_rfl, by kernel_rfl, by kernel_rfl, by kernel_rfl, by kernel_rfl, r_q11, o_m, o_x4, o_x7, hb, hc, hs, ?_, ?_⟩
          · first | exact left_zero (by omega) | exact left_no (by omega) (by assumption) (.inl (by omega)) | exact left_no (by omega) (by assumption) (.inr (by assumption)) | exact left_yes (by omega) (by assumption) (by omega) (by assumption)
          · omega
      · intro h55
        replace h55 : (fromF xs lo) ≤ 0 := by omega
        refine Lq_mv (Lq_skip (by kernel_rfl) (Lq_skip (by kernel_rfl) (Lq_skip (by kernel_rfl) (Lq_skip (by kernel_rfl) (Lq_skip (by kernel_rfl) (Lq_skip (by kernel_rfl) (Lq_skip (by kernel_rfl) (Lq_skip (by kernel_rfl) (Lq_skip (by kernel_rfl) (Lq_skip (by kernel_rfl) (Lq_skip (by kernel_rfl) (Lq_skip (by kernel_rfl) (Lq_skip (by kernel_rfl) (Lq_pickF (by kernel_rfl) (Lq_mv (Lq_skip (by kernel_rfl) (Lq_skip (by kernel_rfl) (Lq_skip (by kernel_rfl) (Lq_skip (by kernel_rfl) (Lq_skip (by kernel_rfl) (Lq_skip (by kernel_rfl) (Lq_skip (by kernel_rfl) (Lq_skip (by kernel_rfl) (Lq_skip (by kernel_rfl) (Lq_skip (by kernel_rfl) (Lq_skip (by kernel_rfl) (Lq_pickF (by kernel_rfl) (Lq_nil ?_))))))))))))))))))))))))))))
        intro w56 hB57
        replace hb := hb.trans (hB57.mono hs)
        replace hc := hc.trans2 (Ch.of_below hB57) (fun _ h => h.elim)
        replace hs := Nat.le_trans hs (hB57.size)
        replace o_m := obj_below o_m hB57
        replace o_x4 := obj_below o_x4 hB57
        replace o_x7 := obj_below o_x7 hB57
        replace r_q11 := r_q11.below hB57
        refine thenQ_normal (W_false (by kernel_rfl) (W_skip ?_))
        refine thenQ_normal ⟨(fromF xs lo), lo, rfl, by kernel_rfl, by kernel_rfl, by kernel_rfl, by kernel_rfl, by kernel_rfl, by kernel_rfl, r_q11, o_m, o_x4, o_x7, hb, hc, hs, ?_, ?_⟩
        · first | exact left_zero (by omega) | exact left_no (by omega) (by assumption) (.inl (by omega)) | exact left_no (by omega) (by assumption) (.inr (by assumption)) | exact left_yes (by omega) (by assumption) (by omega) (by assumption)
        · omega
    · rintro s58 w59 ⟨a, p, hds, f_0, f_2, f_6, f_7, f_9, f_8, r_q11, o_m, o_x4, o_x7, hb, hc, hs, jl, ja⟩
      refine W_set 0 _ f_0 (W_set 2 _ f_2 (W_set 6 _ f_6 (W_set 7 _ f_7 (W_set 9 _ f_9 (W_set 8 _ f_8 ?_)))))
      clear f_0 f_2 f_6 f_7 f_9 f_8
      refine W_cut (fun s0 w0 => ∃ (b : Nat) (q : Int), (s0.ds = []) ∧ (s0.f 0 = (.pointer (some ⟨b_m, 0, none⟩))) ∧ (s0.f 6 = (.int .i64 0)) ∧ (s0.f 7 = (.pointer (some ⟨b16, 0, none⟩))) ∧ (s0.f 8 = (.int .i64 ((a : Nat) : Int))) ∧ (s0.f 9 = (.int .i64 ((b : Nat) : Int))) ∧ (Row w0 B_ 152 3 encSpanS q11 xs) ∧ (w0.heap[b_m]? = some (.cells [q11, (.bool true)].toArray 150 (0, 0))) ∧ (w0.heap[b1]? = some (.cells [(.int .i32 lo), (.int .i32 hi)].toArray 29 (0, 0))) ∧ (w0.heap[b16]? = some (.cells [(.int .i32 p), (.int .i32 q), (S val)].toArray 152 (0, 0))) ∧ (Below B_ w w0) ∧ (Ch (Dm b_m v_xs) w w0) ∧ (B_ ≤ w0.heap.size) ∧ (rightF xs lo hi val = (b, q)) ∧ (fromF xs lo ≤ b ∧ b ≤ xs.length)) ?_ ?_
      · refine W_seq (W_quiet (by kernel_rfl) (by kernel_rfl) (Lq_mv (Lq_mv (Lq_run (.pointer (some ⟨b_m, 0, none⟩)) (fun _ => by kernel_rfl) (Lq_run (.pointer (some ⟨b_m, 0, none⟩)) (fun _ => by kernel_rfl) (Lq_load b_m 0 q11 (by kernel_rfl) (fun _ => by kernel_rfl) (cell_obj o_m rfl) (Lq_len 148 152 (xs).length q11 rfl Try.underlying148 (r_q11.rd).len (by kernel_rfl) (Lq_cmp .i64 (((fromF xs lo) : Nat) : Int) (((xs).length : Nat) : Int) ((fromF xs lo) < (xs).length) rfl (cmpN_lt (fromF xs lo) ((xs).length)) (by kernel_rfl) (by kernel_rfl) ?_ ?_))))))))
        · intro h60
          replace h60 : (fromF xs lo) < (xs).length := by omega
          refine Lq_mv (Lq_want (by kernel_rfl) (Lq_mv (Lq_want (by kernel_rfl) (Lq_run (.pointer (some ⟨b_m, 0, none⟩)) (fun _ => by kernel_rfl) (Lq_want (by kernel_rfl) (Lq_run (.pointer (some ⟨b_m, 0, none⟩)) (fun _ => by kernel_rfl) (Lq_want (by kernel_rfl) (Lq_load b_m 0 q11 (by kernel_rfl) (fun _ => by kernel_rfl) (cell_obj o_m rfl) (Lq_want (by kernel_rfl) (Lq_mv (Lq_want (by kernel_rfl) ?_)))))))))))
          have hz := get_some xs (fromF xs lo) (by omega); obtain ⟨x61, hx62⟩ := hz
          have hz := (r_q11.rd).at (k := 3) (fun _ => rfl) hx62
          obtain ⟨g63, off64, hl65, hc66⟩ := hz
          have hre := hr.at hx62
          refine Lq_ixaddr (k := .i64) q11 (fromF xs lo) _ g63 off64 el148 hl65 (by omega) (by kernel_rfl) (by kernel_rfl) (Lq_want (by kernel_rfl) (Lq_run (.pointer (some ⟨g63, (off64 + (fromF xs lo) * 3), none⟩)) (fun _ => by kernel_rfl) (Lq_want (by kernel_rfl) (Lq_load g63 (off64 + (fromF xs lo) * 3) (.int .i32 x61.1) (by kernel_rfl) (fun _ => by kernel_rfl) (hc66 0 _ rfl) (Lq_want (by kernel_rfl) (Lq_run (.pointer (some ⟨b16, 1, none⟩)) (fun _ => by kernel_rfl) (Lq_want (by kernel_rfl) (Lq_load b16 1 (.int .i32 hi) (by kernel_rfl) (fun _ => by kernel_rfl) (cell_obj o_x7 rfl) (Lq_want (by kernel_rfl) (Lq_arith hi 1 (hi + 1) rfl (by kernel_rfl) (by kernel_rfl) (wrap_i32 _ (by simp only [arithZ]; omega) (by simp only [arithZ]; omega)) (Lq_want (by kernel_rfl) (Lq_cmp .i32 x61.1 (hi + 1) (x61.1 = (hi + 1)) rfl (cmp_eq x61.1 (hi + 1)) (by kernel_rfl) (by kernel_rfl) ?_ ?_))))))))))))
          · intro h67
            replace h67 : x61.1 = (hi + 1) := by omega
            refine Lq_pickT (by kernel_rfl) (Lq_mv (Lq_want (by kernel_rfl) (Lq_mv (Lq_want (by kernel_rfl) (Lq_run (.pointer (some ⟨b_m, 0, none⟩)) (fun _ => by kernel_rfl) (Lq_want (by kernel_rfl) (Lq_run (.pointer (some ⟨b_m, 0, none⟩)) (fun _ => by kernel_rfl) (Lq_want (by kernel_rfl) (Lq_load b_m 0 q11 (by kernel_rfl) (fun _ => by kernel_rfl) (cell_obj o_m rfl) (Lq_want (by kernel_rfl) (Lq_mv (Lq_want (by kernel_rfl) ?_))))))))))))
            have hz := (r_q11.rd).at (k := 3) (fun _ => rfl) hx62
            obtain ⟨g70, off71, hl72, hc73⟩ := hz
            refine Lq_ixaddr (k := .i64) q11 (fromF xs lo) _ g70 off71 el148 hl72 (by omega) (by kernel_rfl) (by kernel_rfl) (Lq_want (by kernel_rfl) (Lq_run (.pointer (some ⟨g70, ((off71 + (fromF xs lo) * 3) + 2), none⟩)) (fun _ => by kernel_rfl) (Lq_want (by kernel_rfl) (Lq_load g70 ((off71 + (fromF xs lo) * 3) + 2) (S x61.2.2) (by kernel_rfl) (fun _ => by kernel_rfl) (hc73 2 _ rfl) (Lq_want (by kernel_rfl) (Lq_mv (Lq_want (by kernel_rfl) (Lq_seq x61.2.2 val rfl (by kernel_rfl) (by kernel_rfl) ?_ ?_))))))))
            · intro h74
              refine Lq_pickT (by kernel_rfl) (Lq_nil ?_)
              intro w75 hB76
              replace hb := hb.trans (hB76.mono hs)
              replace hc := hc.trans2 (Ch.of_below hB76) (fun _ h => h.elim)
              replace hs := Nat.le_trans hs (hB76.size)
              replace o_m := obj_below o_m hB76
              replace o_x4 := obj_below o_x4 hB76
              replace o_x7 := obj_below o_x7 hB76
              replace r_q11 := r_q11.below hB76
              refine thenQ_normal (W_true (by kernel_rfl) (W_seq (W_region (L_mv (L_run (.pointer (some ⟨b_m, 0, none⟩)) (by kernel_rfl) (by kernel_rfl) (L_run (.pointer (some ⟨b_m, 0, none⟩)) (by kernel_rfl) (by kernel_rfl) (L_load b_m 0 q11 (by kernel_rfl) (by kernel_rfl) (cell_obj o_m rfl) (L_mv ?_))))))))
              have hz := (r_q11.rd).at (k := 3) (fun _ => rfl) hx62
              obtain ⟨g79, off80, hl81, hc82⟩ := hz
              refine L_ixaddr (k := .i64) q11 (fromF xs lo) _ g79 off80 el148 hl81 (by omega) (by kernel_rfl) (by kernel_rfl) (L_run (.pointer (some ⟨g79, ((off80 + (fromF xs lo) * 3) + 1), none⟩)) (by kernel_rfl) (by kernel_rfl) (L_load g79 ((off80 + (fromF xs lo) * 3) + 1) (.int .i32 x61.2.1) (by kernel_rfl) (by kernel_rfl) (hc82 1 _ rfl) (L_run (.pointer (some ⟨b16, 1, none⟩)) (by kernel_rfl) (by kernel_rfl) (L_store b16 1 (.int .i32 x61.2.1) [(.int .i32 p), (.int .i32 hi), (S val)] [(.int .i32 p), (.int .i32 x61.2.1), (S val)] 152 (by kernel_rfl) (by kernel_rfl) rfl (by kernel_rfl) o_x7 (by simp) rfl ?_))))
              intro w83 hW84
              replace hb := hb.trans (hW84.below g_x7)
              replace hc := hc.trans2 (Ch.of_wrote hW84) (fun k e => e ▸ dk_x7)
              replace hs := Nat.le_trans hs (Nat.le_of_eq hW84.size.symm)
              have n_o_m := obj_wrote o_m hW84 (obj_ne o_m o_x7 (by simp))
              have n_o_x4 := obj_wrote o_x4 hW84 (obj_ne o_x4 o_x7 (by simp))
              have n_r_q11 := r_q11.wrote hW84 nb_o_x7_r_q11
              replace o_m := n_o_m; clear n_o_m
              replace o_x4 := n_o_x4; clear n_o_x4
              replace r_q11 := n_r_q11; clear n_r_q11
              replace o_x7 := hW84.here
              refine L_nil (thenQ_normal (W_region (L_mv (L_addN (fromF xs lo) 1 (by omega) (by kernel_rfl) (by kernel_rfl) (L_as (L_nil ?_))))))
              refine thenQ_normal ⟨((fromF xs lo) + 1), x61.2.1, hds, by kernel_rfl, by kernel_rfl, by kernel_rfl, by kernel_rfl, by kernel_rfl, r_q11, o_m, o_x4, o_x7, hb, hc, hs, ?_, ?_⟩
              · first | exact right_end (by omega) | exact right_no (by assumption) (.inl (by omega)) | exact right_no (by assumption) (.inr (by assumption)) | exact right_yes (by assumption) (by omega) (by assumption)
              · omega
            · intro h85
              refine Lq_pickT (by kernel_rfl) (Lq_nil ?_)
              intro w86 hB87
              replace hb := hb.trans (hB87.mono hs)
              replace hc := hc.trans2 (Ch.of_below hB87) (fun _ h => h.elim)
              replace hs := Nat.le_trans hs (hB87.size)
              replace o_m := obj_below o_m hB87
              replace o_x4 := obj_below o_x4 hB87
              replace o_x7 := obj_below o_x7 hB87
              replace r_q11 := r_q11.below hB87
              refine thenQ_normal (W_false (by kernel_rfl) (W_skip ?_))
              refine thenQ_normal ⟨(fromF xs lo), hi, hds, by kernel_rfl, by kernel_rfl, by kernel_rfl, by kernel_rfl, by kernel_rfl, r_q11, o_m, o_x4, o_x7, hb, hc, hs, ?_, ?_⟩
              · first | exact right_end (by omega) | exact right_no (by assumption) (.inl (by omega)) | exact right_no (by assumption) (.inr (by assumption)) | exact right_yes (by assumption) (by omega) (by assumption)
              · omega
          · intro h88
            replace h88 : x61.1 ≠ (hi + 1) := by omega
            refine Lq_pickT (by kernel_rfl) (Lq_mv (Lq_skip (by kernel_rfl) (Lq_skip (by kernel_rfl) (Lq_skip (by kernel_rfl) (Lq_skip (by kernel_rfl) (Lq_skip (by kernel_rfl) (Lq_skip (by kernel_rfl) (Lq_skip (by kernel_rfl) (Lq_skip (by kernel_rfl) (Lq_skip (by kernel_rfl) (Lq_skip (by kernel_rfl) (Lq_pickF (by kernel_rfl) (Lq_nil ?_)))))))))))))
            intro w89 hB90
            replace hb := hb.trans (hB90.mono hs)
            replace hc := hc.trans2 (Ch.of_below hB90) (fun _ h => h.elim)
            replace hs := Nat.le_trans hs (hB90.size)
            replace o_m := obj_below o_m hB90
            replace o_x4 := obj_below o_x4 hB90
            replace o_x7 := obj_below o_x7 hB90
            replace r_q11 := r_q11.below hB90
            refine thenQ_normal (W_false (by kernel_rfl) (W_skip ?_))
            refine thenQ_normal ⟨(fromF xs lo), hi, hds, by kernel_rfl, by kernel_rfl, by kernel_rfl, by kernel_rfl, by kernel_rfl, r_q11, o_m, o_x4, o_x7, hb, hc, hs, ?_, ?_⟩
            · first | exact right_end (by omega) | exact right_no (by assumption) (.inl (by omega)) | exact right_no (by assumption) (.inr (by assumption)) | exact right_yes (by assumption) (by omega) (by assumption)
            · omega
        · intro h91
          replace h91 : (xs).length ≤ (fromF xs lo) := by omega
          refine Lq_mv (Lq_skip (by kernel_rfl) (Lq_skip (by kernel_rfl) (Lq_skip (by kernel_rfl) (Lq_skip (by kernel_rfl) (Lq_skip (by kernel_rfl) (Lq_skip (by kernel_rfl) (Lq_skip (by kernel_rfl) (Lq_skip (by kernel_rfl) (Lq_skip (by kernel_rfl) (Lq_skip (by kernel_rfl) (Lq_skip (by kernel_rfl) (Lq_skip (by kernel_rfl) (Lq_pickF (by kernel_rfl) (Lq_mv (Lq_skip (by kernel_rfl) (Lq_skip (by kernel_rfl) (Lq_skip (by kernel_rfl) (Lq_skip (by kernel_rfl) (Lq_skip (by kernel_rfl) (Lq_skip (by kernel_rfl) (Lq_skip (by kernel_rfl) (Lq_skip (by kernel_rfl) (Lq_skip (by kernel_rfl) (Lq_skip (by kernel_rfl) (Lq_pickF (by kernel_rfl) (Lq_nil ?_))))))))))))))))))))))))))
          intro w92 hB93
          replace hb := hb.trans (hB93.mono hs)
          replace hc := hc.trans2 (Ch.of_below hB93) (fun _ h => h.elim)
          replace hs := Nat.le_trans hs (hB93.size)
          replace o_m := obj_below o_m hB93
          replace o_x4 := obj_below o_x4 hB93
          replace o_x7 := obj_below o_x7 hB93
          replace r_q11 := r_q11.below hB93
          refine thenQ_normal (W_false (by kernel_rfl) (W_skip ?_))
          refine thenQ_normal ⟨(fromF xs lo), hi, hds, by kernel_rfl, by kernel_rfl, by kernel_rfl, by kernel_rfl, by kernel_rfl, r_q11, o_m, o_x4, o_x7, hb, hc, hs, ?_, ?_⟩
          · first | exact right_end (by omega) | exact right_no (by assumption) (.inl (by omega)) | exact right_no (by assumption) (.inr (by assumption)) | exact right_yes (by assumption) (by omega) (by assumption)
          · omega
      · rintro s94 w95 ⟨b, q, hds, f_0, f_6, f_7, f_8, f_9, r_q11, o_m, o_x4, o_x7, hb, hc, hs, jr, jb⟩
        refine W_set 0 _ f_0 (W_set 6 _ f_6 (W_set 7 _ f_7 (W_set 8 _ f_8 (W_set 9 _ f_9 ?_))))
        clear f_0 f_6 f_7 f_8 f_9
        refine W_seq (W_held 13 (by kernel_rfl) (by kernel_rfl) ?_)
        intro w96 hB97
        replace hb := hb.trans (hB97.mono hs)
        replace hc := hc.trans2 (Ch.of_below hB97) (fun _ h => h.elim)
        replace hs := Nat.le_trans hs (hB97.size)
        replace o_m := obj_below o_m hB97
        replace o_x4 := obj_below o_x4 hB97
        replace o_x7 := obj_below o_x7 hB97
        replace r_q11 := r_q11.below hB97
        refine ⟨fun w2 => Ch (Dm b_m q11) w96 w2, ?_⟩
        have hS : Ch (Dm b_m q11) w96 w96 := Ch.refl _ _
        refine H_take 0 (.pointer (some ⟨b_m, 0, none⟩)) rfl (by kernel_rfl) (by kernel_rfl) (by kernel_rfl) (by repeat first | exact noPanic_end | exact noPanic_endM | apply noPanic_then | apply noPanic_blk) hS (by kernel_rfl) (fun _ _ => by kernel_rfl) ?_
        refine H_take 1 (.pointer (some ⟨b_m, 0, none⟩)) rfl (by kernel_rfl) (by kernel_rfl) (by kernel_rfl) (by repeat first | exact noPanic_end | exact noPanic_endM | apply noPanic_then | apply noPanic_blk) hS (by kernel_rfl) (fun _ _ => by kernel_rfl) ?_
        refine H_take 2 (.pointer (some ⟨b_m, 0, none⟩)) rfl (by kernel_rfl) (by kernel_rfl) (by kernel_rfl) (by repeat first | exact noPanic_end | exact noPanic_endM | apply noPanic_then | apply noPanic_blk) hS (by kernel_rfl) (fun _ _ => by kernel_rfl) ?_
        refine H_take 3 (.pointer (some ⟨b_m, 0, none⟩)) rfl (by kernel_rfl) (by kernel_rfl) (by kernel_rfl) (by repeat first | exact noPanic_end | exact noPanic_endM | apply noPanic_then | apply noPanic_blk) hS (by kernel_rfl) (fun _ _ => by kernel_rfl) ?_
        refine H_take 5 (.int .i64 ((a : Nat) : Int)) rfl (by kernel_rfl) (by kernel_rfl) (by kernel_rfl) (by repeat first | exact noPanic_end | exact noPanic_endM | apply noPanic_then | apply noPanic_blk) hS (by kernel_rfl) (fun _ _ => by kernel_rfl) ?_
        refine H_take 6 (.int .i64 ((b : Nat) : Int)) rfl (by kernel_rfl) (by kernel_rfl) (by kernel_rfl) (by repeat first | exact noPanic_end | exact noPanic_endM | apply noPanic_then | apply noPanic_blk) hS (by kernel_rfl) (fun _ _ => by kernel_rfl) ?_
        refine H_take 7 (Value.agg #[(.int .i32 p), (.int .i32 q), (S val)]) rfl (by kernel_rfl) (by kernel_rfl) (by kernel_rfl) (by repeat first | exact noPanic_end | exact noPanic_endM | apply noPanic_then | apply noPanic_blk) hS (by kernel_rfl) (R_loadA b16 0 [(.int .i32 p), (.int .i32 q), (S val)] (by kernel_rfl) (fun _ => by kernel_rfl) (fun _ => by kernel_rfl) (fun w2 h2 => cells_at (obj_ch_mut o_x7 h2 (obj_ne o_x7 o_m (by simp)) nb_o_x7_r_q11) 0 (by kernel_rfl))) ?_
        refine H_all2 4 8 (by kernel_rfl) ?_ ?_
        · skip
          refine H_op 4 rfl (by kernel_rfl) plain_load ?_
          refine L_load b_m 0 q11 (by kernel_rfl) (by kernel_rfl) (cell_obj o_m rfl) (L_nil ?_)
          refine ⟨rfl, hS, ?_⟩
          refine H_all1 8 (by kernel_rfl) ?_
          refine H_op 8 rfl (by kernel_rfl) (by kernel_rfl) ?_
          refine L_new (fun b => .slice (some ⟨b, 0, none⟩) 1 1) (.cells [(.int .i32 p), (.int .i32 q), (S val)].toArray 152 (0, 0)) (by kernel_rfl) (by kernel_rfl) ?_
          intro b98 w99 hN100
          have g_b98 : B_ ≤ b98 := by rw [hN100.num]; exact hs
          have ap_r_q11_r_b98 : Value.ownBlock q11 = none ∨ Value.ownBlock q11 ≠ Value.ownBlock (.slice (some ⟨b98, 0, none⟩) 1 1) := .inr (r_q11.new_ne hN100)
          have ap_r_b98_r_q11 := ap_comm ap_r_q11_r_b98
          have dr_r_b98 : ∀ g, Value.ownBlock (.slice (some ⟨b98, 0, none⟩) 1 1) = some g → (World.heap w).size ≤ g ∨ (Dm b_m v_xs) g := fun g h => .inl (by cases h; rw [hN100.num]; exact hc.size)
          replace hb := hb.trans (hN100.below.mono hs)
          replace hS := hS.trans2 (Ch.of_below hN100.below) (fun _ h => h.elim)
          replace hc := hc.trans2 (Ch.of_below hN100.below) (fun _ h => h.elim)
          replace hs := Nat.le_trans hs (hN100.below.size)
          replace o_m := obj_below o_m hN100.below
          replace o_x4 := obj_below o_x4 hN100.below
          replace o_x7 := obj_below o_x7 hN100.below
          replace r_q11 := r_q11.below hN100.below
          have r_b98 : Row w99 B_ 152 3 encSpanS (.slice (some ⟨b98, 0, none⟩) 1 1) ([(p, q, val)] : List (Int × Int × List UInt8)) := Row.made ([(p, q, val)] : List (Int × Int × List UInt8)) hN100 g_b98 rfl rfl (by first | decide | (simp; done))
          refine L_nil ?_
          refine ⟨rfl, hS, ?_⟩
          refine H_all1 9 (by kernel_rfl) ?_
          refine H_op 9 rfl (by kernel_rfl) (by kernel_rfl) ?_
          refine L_call 104 [q11, (.int .i64 ((a : Nat) : Int)), (.int .i64 ((b : Nat) : Int)), (.slice (some ⟨b98, 0, none⟩) 1 1)] (by kernel_rfl) (by kernel_rfl) (c_replace_S B_ q11 xs a b (.slice (some ⟨b98, 0, none⟩) 1 1) ([(p, q, val)] : List (Int × Int × List UInt8)) _ hs r_q11 r_b98.rd (by omega) (by omega) (by exact layOk_pre (hk (by assumption)) jl jr) (by omega) (by simp)) ?_
          rintro q101 w102 ⟨_, rfl, r_q101, dm103, hC104⟩
          have dr_r_q101 := dr_call hc dm103 dr_r_q11
          replace hc := hc.trans2 hC104 (fun k e => dr_r_q11 k e)
          replace hb := hC104.below hb hs (fun k e => (World.ownsRow.lt r_q11 k e).1)
          replace hs := Nat.le_trans hs hC104.size
          replace hS := hS.trans2 hC104 (fun k e => .inr (.inr e))
          have n_o_m := obj_ch_row o_m hC104 (r_q11.ne o_m (by simp))
          have n_o_x4 := obj_ch_row o_x4 hC104 (r_q11.ne o_x4 (by simp))
          have nb_o_x7_r_q101 := nb_mutrow o_x7 dm103 nb_o_x7_r_q11
          have n_o_x7 := obj_ch_row o_x7 hC104 nb_o_x7_r_q11
          have ap_r_b98_r_q101 := ap_mutrow r_b98 dm103 ap_r_b98_r_q11; have ap_r_q101_r_b98 := ap_comm ap_r_b98_r_q101
          have n_r_b98 := r_b98.ch_row hC104 ap_r_b98_r_q11
          replace o_m := n_o_m; clear n_o_m
          replace o_x4 := n_o_x4; clear n_o_x4
          replace o_x7 := n_o_x7; clear n_o_x7
          replace r_b98 := n_r_b98; clear n_r_b98
          refine L_nil ?_
          refine ⟨rfl, hS, ?_⟩
          refine H_take 10 (.pointer (some ⟨b_m, 0, none⟩)) rfl (by kernel_rfl) (by kernel_rfl) (by kernel_rfl) (by repeat first | exact noPanic_end | exact noPanic_endM | apply noPanic_then | apply noPanic_blk) hS (by kernel_rfl) (fun _ _ => by kernel_rfl) ?_
          refine H_take 11 (.pointer (some ⟨b_m, 0, none⟩)) rfl (by kernel_rfl) (by kernel_rfl) (by kernel_rfl) (by repeat first | exact noPanic_end | exact noPanic_endM | apply noPanic_then | apply noPanic_blk) hS (by kernel_rfl) (fun _ _ => by kernel_rfl) ?_
          refine H_all1 12 (by kernel_rfl) ?_
          refine H_op 12 rfl (by kernel_rfl) plain_store ?_
          refine L_store b_m 0 q101 [q11, (.bool true)] [q101, (.bool true)] 150 (by kernel_rfl) (by kernel_rfl) r_q101.one (by kernel_rfl) o_m (by simp) rfl ?_
          intro w105 hW106
          replace hb := hb.trans (hW106.below g_m)
          replace hS := hS.trans2 (Ch.of_wrote hW106) (fun k e => .inr (.inl e))
          replace hc := hc.trans2 (Ch.of_wrote hW106) (fun k e => e ▸ dk_m)
          replace hs := Nat.le_trans hs (Nat.le_of_eq hW106.size.symm)
          have n_o_x4 := obj_wrote o_x4 hW106 (obj_ne o_x4 o_m (by simp))
          have n_o_x7 := obj_wrote o_x7 hW106 (obj_ne o_x7 o_m (by simp))
          have n_r_b98 := r_b98.wrote hW106 (r_b98.ne o_m (by simp))
          have n_r_q101 := r_q101.wrote hW106 (r_q101.ne o_m (by simp))
          replace o_x4 := n_o_x4; clear n_o_x4
          replace o_x7 := n_o_x7; clear n_o_x7
          replace r_b98 := n_r_b98; clear n_r_b98
          replace r_q101 := n_r_q101; clear n_r_q101
          replace o_m := hW106.here
          refine L_nil ?_
          refine ⟨rfl, hS, ?_⟩
          refine H_done (by kernel_rfl) ?_
          refine thenQ_normal (W_seq (W_region (L_as (L_nil (thenQ_normal (W_ret ?_))))))
          refine end_ret [.tmp 6] [(.int .i64 0)] rfl hds ⟨by kernel_rfl, trivial⟩ ?_
          have hE : ((0 : Int) = (layE lo hi)) ∧ ((List.take a xs ++ ([(p, q, val)] : List (Int × Int × List UInt8)) ++ List.drop b xs) = (layF xs lo hi val)) := ⟨(by first | rfl | (rw [layE, if_pos (by assumption)]; done) | (rw [layE, if_neg (by simp [*])]; done) | (rw [layF, if_pos (by assumption)]; done) | (rw [layF, if_neg (by simp [*])]; exact layM_mk jl jr)), (by first | rfl | (rw [layE, if_pos (by assumption)]; done) | (rw [layE, if_neg (by simp [*])]; done) | (rw [layF, if_pos (by assumption)]; done) | (rw [layF, if_neg (by simp [*])]; exact layM_mk jl jr))⟩
          exact ⟨_, congrArg (Value.int .i64) hE.1, o_m, r_q101.cast hE.2, dr_r_q101, hc⟩
        · skip
          refine H_op 8 rfl (by kernel_rfl) (by kernel_rfl) ?_
          refine L_new (fun b => .slice (some ⟨b, 0, none⟩) 1 1) (.cells [(.int .i32 p), (.int .i32 q), (S val)].toArray 152 (0, 0)) (by kernel_rfl) (by kernel_rfl) ?_
          intro b107 w108 hN109
          have g_b107 : B_ ≤ b107 := by rw [hN109.num]; exact hs
          have ap_r_q11_r_b107 : Value.ownBlock q11 = none ∨ Value.ownBlock q11 ≠ Value.ownBlock (.slice (some ⟨b107, 0, none⟩) 1 1) := .inr (r_q11.new_ne hN109)
          have ap_r_b107_r_q11 := ap_comm ap_r_q11_r_b107
          have dr_r_b107 : ∀ g, Value.ownBlock (.slice (some ⟨b107, 0, none⟩) 1 1) = some g → (World.heap w).size ≤ g ∨ (Dm b_m v_xs) g := fun g h => .inl (by cases h; rw [hN109.num]; exact hc.size)
          replace hb := hb.trans (hN109.below.mono hs)
          replace hS := hS.trans2 (Ch.of_below hN109.below) (fun _ h => h.elim)
          replace hc := hc.trans2 (Ch.of_below hN109.below) (fun _ h => h.elim)
          replace hs := Nat.le_trans hs (hN109.below.size)
          replace o_m := obj_below o_m hN109.below
          replace o_x4 := obj_below o_x4 hN109.below
          replace o_x7 := obj_below o_x7 hN109.below
          replace r_q11 := r_q11.below hN109.below
          have r_b107 : Row w108 B_ 152 3 encSpanS (.slice (some ⟨b107, 0, none⟩) 1 1) ([(p, q, val)] : List (Int × Int × List UInt8)) := Row.made ([(p, q, val)] : List (Int × Int × List UInt8)) hN109 g_b107 rfl rfl (by first | decide | (simp; done))
          refine L_nil ?_
          refine ⟨rfl, hS, ?_⟩
          refine H_all1 4 (by kernel_rfl) ?_
          refine H_op 4 rfl (by kernel_rfl) plain_load ?_
          refine L_load b_m 0 q11 (by kernel_rfl) (by kernel_rfl) (cell_obj o_m rfl) (L_nil ?_)
          refine ⟨rfl, hS, ?_⟩
          refine H_all1 9 (by kernel_rfl) ?_
          refine H_op 9 rfl (by kernel_rfl) (by kernel_rfl) ?_
          refine L_call 104 [q11, (.int .i64 ((a : Nat) : Int)), (.int .i64 ((b : Nat) : Int)), (.slice (some ⟨b107, 0, none⟩) 1 1)] (by kernel_rfl) (by kernel_rfl) (c_replace_S B_ q11 xs a b (.slice (some ⟨b107, 0, none⟩) 1 1) ([(p, q, val)] : List (Int × Int × List UInt8)) _ hs r_q11 r_b107.rd (by omega) (by omega) (by exact layOk_pre (hk (by assumption)) jl jr) (by omega) (by simp)) ?_
          rintro q110 w111 ⟨_, rfl, r_q110, dm112, hC113⟩
          have dr_r_q110 := dr_call hc dm112 dr_r_q11
          replace hc := hc.trans2 hC113 (fun k e => dr_r_q11 k e)
          replace hb := hC113.below hb hs (fun k e => (World.ownsRow.lt r_q11 k e).1)
          replace hs := Nat.le_trans hs hC113.size
          replace hS := hS.trans2 hC113 (fun k e => .inr (.inr e))
          have n_o_m := obj_ch_row o_m hC113 (r_q11.ne o_m (by simp))
          have n_o_x4 := obj_ch_row o_x4 hC113 (r_q11.ne o_x4 (by simp))
          have nb_o_x7_r_q110 := nb_mutrow o_x7 dm112 nb_o_x7_r_q11
          have n_o_x7 := obj_ch_row o_x7 hC113 nb_o_x7_r_q11
          have ap_r_b107_r_q110 := ap_mutrow r_b107 dm112 ap_r_b107_r_q11; have ap_r_q110_r_b107 := ap_comm ap_r_b107_r_q110
          have n_r_b107 := r_b107.ch_row hC113 ap_r_b107_r_q11
          replace o_m := n_o_m; clear n_o_m
          replace o_x4 := n_o_x4; clear n_o_x4
          replace o_x7 := n_o_x7; clear n_o_x7
          replace r_b107 := n_r_b107; clear n_r_b107
          refine L_nil ?_
          refine ⟨rfl, hS, ?_⟩
          refine H_take 10 (.pointer (some ⟨b_m, 0, none⟩)) rfl (by kernel_rfl) (by kernel_rfl) (by kernel_rfl) (by repeat first | exact noPanic_end | exact noPanic_endM | apply noPanic_then | apply noPanic_blk) hS (by kernel_rfl) (fun _ _ => by kernel_rfl) ?_
          refine H_take 11 (.pointer (some ⟨b_m, 0, none⟩)) rfl (by kernel_rfl) (by kernel_rfl) (by kernel_rfl) (by repeat first | exact noPanic_end | exact noPanic_endM | apply noPanic_then | apply noPanic_blk) hS (by kernel_rfl) (fun _ _ => by kernel_rfl) ?_
          refine H_all1 12 (by kernel_rfl) ?_
          refine H_op 12 rfl (by kernel_rfl) plain_store ?_
          refine L_store b_m 0 q110 [q11, (.bool true)] [q110, (.bool true)] 150 (by kernel_rfl) (by kernel_rfl) r_q110.one (by kernel_rfl) o_m (by simp) rfl ?_
          intro w114 hW115
          replace hb := hb.trans (hW115.below g_m)
          replace hS := hS.trans2 (Ch.of_wrote hW115) (fun k e => .inr (.inl e))
          replace hc := hc.trans2 (Ch.of_wrote hW115) (fun k e => e ▸ dk_m)
          replace hs := Nat.le_trans hs (Nat.le_of_eq hW115.size.symm)
          have n_o_x4 := obj_wrote o_x4 hW115 (obj_ne o_x4 o_m (by simp))
          have n_o_x7 := obj_wrote o_x7 hW115 (obj_ne o_x7 o_m (by simp))
          have n_r_b107 := r_b107.wrote hW115 (r_b107.ne o_m (by simp))
          have n_r_q110 := r_q110.wrote hW115 (r_q110.ne o_m (by simp))
          replace o_x4 := n_o_x4; clear n_o_x4
          replace o_x7 := n_o_x7; clear n_o_x7
          replace r_b107 := n_r_b107; clear n_r_b107
          replace r_q110 := n_r_q110; clear n_r_q110
          replace o_m := hW115.here
          refine L_nil ?_
          refine ⟨rfl, hS, ?_⟩
          refine H_done (by kernel_rfl) ?_
          refine thenQ_normal (W_seq (W_region (L_as (L_nil (thenQ_normal (W_ret ?_))))))
          refine end_ret [.tmp 6] [(.int .i64 0)] rfl hds ⟨by kernel_rfl, trivial⟩ ?_
          have hE : ((0 : Int) = (layE lo hi)) ∧ ((List.take a xs ++ ([(p, q, val)] : List (Int × Int × List UInt8)) ++ List.drop b xs) = (layF xs lo hi val)) := ⟨(by first | rfl | (rw [layE, if_pos (by assumption)]; done) | (rw [layE, if_neg (by simp [*])]; done) | (rw [layF, if_pos (by assumption)]; done) | (rw [layF, if_neg (by simp [*])]; exact layM_mk jl jr)), (by first | rfl | (rw [layE, if_pos (by assumption)]; done) | (rw [layE, if_neg (by simp [*])]; done) | (rw [layF, if_pos (by assumption)]; done) | (rw [layF, if_neg (by simp [*])]; exact layM_mk jl jr))⟩
          exact ⟨_, congrArg (Value.int .i64) hE.1, o_m, r_q110.cast hE.2, dr_r_q110, hc⟩
  · intro h116
    refine L_not false (by kernel_rfl) (L_as (L_nil (thenQ_normal (W_true (by kernel_rfl) (W_seq (W_region (L_as (L_nil (thenQ_normal (W_ret (blkQ_ret (thenQ_ret ?_))))))))))))
    refine end_ret [.tmp 6] [(.int .i64 41)] rfl rfl ⟨by kernel_rfl, trivial⟩ ?_
    have hE : ((41 : Int) = (layE lo hi)) ∧ (xs = (layF xs lo hi val)) := ⟨(by first | rfl | (rw [layE, if_pos (by assumption)]; done) | (rw [layE, if_neg (by simp [*])]; done) | (rw [layF, if_pos (by assumption)]; done) | (rw [layF, if_neg (by simp [*])]; exact layM_mk jl jr)), (by first | rfl | (rw [layE, if_pos (by assumption)]; done) | (rw [layE, if_neg (by simp [*])]; done) | (rw [layF, if_pos (by assumption)]; done) | (rw [layF, if_neg (by simp [*])]; exact layM_mk jl jr))⟩
    exact ⟨_, congrArg (Value.int .i64) hE.1, o_m, p_xs.cast hE.2, dr_p_xs, hc⟩

set_option maxHeartbeats 4000000 in
set_option maxRecDepth 100000 in
theorem c_put_S (b_m : Nat) (v_xs : Value) (xs : List (Int × Int × List UInt8)) (lo : Int) (hi : Int) (val : List UInt8) (B_ : Nat) (w : World) (hs0 : B_ ≤ w.heap.size) (o_m : w.heap[b_m]? = some (.cells [v_xs, (.bool true)].toArray 150 (0, 0))) (g_m : B_ ≤ b_m) (p_xs : Row w B_ 152 3 encSpanS v_xs xs) (hl : xs.length ≤ 1000000) (hr : Rise xs) (hlo : -2147483648 ≤ lo ∧ lo ≤ 2147483647) (hhi : -2147483648 ≤ hi ∧ hi ≤ 2147483647) (hk : mayF lo hi = true → metB xs lo hi = false → layOk xs lo hi val = true) :
    Calls Try.prog 57 #[(.pointer (some ⟨b_m, 0, none⟩)), (Value.agg #[(.int .i32 lo), (.int .i32 hi)]), (S val)] w (Ret fun v w' => ∃ q0 : Value, v = (.int .i64 (putE xs lo hi)) ∧ w'.heap[b_m]? = some (.cells [q0, (.bool true)].toArray 150 (0, 0)) ∧ Row w' B_ 152 3 encSpanS q0 (putM xs lo hi val) ∧ (∀ g, Value.ownBlock q0 = some g → w.heap.size ≤ g ∨ (Dm b_m v_xs) g) ∧ Ch (Dm b_m v_xs) w w') := by
  refine enter (args := [(.pointer (some ⟨b_m, 0, none⟩)), (Value.agg #[(.int .i32 lo), (.int .i32 hi)]), (S val)]) Try.func57 rfl (by kernel_rfl : _ = 29) (by kernel_rfl) ?_
  have hb := Below.refl B_ w
  have hs : B_ ≤ (World.heap w).size := hs0
  have hc := Ch.refl (Dm b_m v_xs) w
  have dk_m : (World.heap w).size ≤ b_m ∨ (Dm b_m v_xs) b_m := .inr (.inl rfl)
  have dr_p_xs : ∀ g, Value.ownBlock v_xs = some g → (World.heap w).size ≤ g ∨ (Dm b_m v_xs) g := fun g h => .inr (.inr h)
  refine W_seq (W_region (L_new (fun b => .pointer (some ⟨b, 0, none⟩)) (.cells [(.int .i32 lo), (.int .i32 hi)].toArray 29 (0, 0)) (by kernel_rfl) (by kernel_rfl) ?_))
  intro b1 w2 hN3
  have ne_m_x4 : b_m ≠ b1 := by have := obj_lt o_m; have := hN3.num; omega
  have ne_x4_m := ne_m_x4.symm
  have g_x4 : B_ ≤ b1 := by rw [hN3.num]; exact hs
  have dk_x4 : (World.heap w).size ≤ b1 ∨ (Dm b_m v_xs) b1 := .inl (by rw [hN3.num]; exact hc.size)
  replace hb := hb.trans (hN3.below.mono hs)
  replace hc := hc.trans2 (Ch.of_below hN3.below) (fun _ h => h.elim)
  replace hs := Nat.le_trans hs (hN3.below.size)
  replace o_m := obj_below o_m hN3.below
  replace p_xs := p_xs.below hN3.below
  have o_x4 := hN3.here
  refine L_as (L_nil (thenQ_normal (W_seq (W_block (W_seq (W_region (L_mv (L_call 86 [(.pointer (some ⟨b_m, 0, none⟩))] (by kernel_rfl) (by kernel_rfl) (c_none_S b_m v_xs xs _ o_m p_xs.rd) ?_))))))))
  rintro _ w4 ⟨rfl, hB5⟩
  replace hb := hb.trans (hB5.mono hs)
  replace hc := hc.trans2 (Ch.of_below hB5) (fun _ h => h.elim)
  replace hs := Nat.le_trans hs (hB5.size)
  replace o_m := obj_below o_m hB5
  replace o_x4 := obj_below o_x4 hB5
  replace p_xs := p_xs.below hB5
  refine L_as (L_nil (thenQ_normal (W_false (by kernel_rfl) (W_seq (W_region (L_loadA b1 0 [(.int .i32 lo), (.int .i32 hi)] (by kernel_rfl) (by kernel_rfl) (by kernel_rfl) (cells_at o_x4 0 (by kernel_rfl)) (L_call 35 [(Value.agg #[(.int .i32 lo), (.int .i32 hi)])] (by kernel_rfl) (by kernel_rfl) (c_points_May lo hi _ ) ?_)))))))
  rintro _ w7 ⟨rfl, hB8⟩
  replace hb := hb.trans (hB8.mono hs)
  replace hc := hc.trans2 (Ch.of_below hB8) (fun _ h => h.elim)
  replace hs := Nat.le_trans hs (hB8.size)
  replace o_m := obj_below o_m hB8
  replace o_x4 := obj_below o_x4 hB8
  replace p_xs := p_xs.below hB8
  refine put_split (mayF lo hi) ?_ ?_
  · intro h10
    have hmb := mayF_b h10
    refine L_not true (by kernel_rfl) (L_as (L_nil (thenQ_normal (W_false (by kernel_rfl) (W_skip (blkQ_normal (thenQ_normal (W_seq (W_seq (W_region (L_mv (L_loadA b1 0 [(.int .i32 lo), (.int .i32 hi)] (by kernel_rfl) (by kernel_rfl) (by kernel_rfl) (cells_at o_x4 0 (by kernel_rfl)) (L_call 101 [(.pointer (some ⟨b_m, 0, none⟩)), (Value.agg #[(.int .i32 lo), (.int .i32 hi)])] (by kernel_rfl) (by kernel_rfl) (c_meets_S b_m v_xs xs lo hi _ o_m p_xs.rd (by omega) (by exact hr) (by omega)) ?_)))))))))))))
    rintro _ w11 ⟨rfl, hB12⟩
    replace hb := hb.trans (hB12.mono hs)
    replace hc := hc.trans2 (Ch.of_below hB12) (fun _ h => h.elim)
    replace hs := Nat.le_trans hs (hB12.size)
    replace o_m := obj_below o_m hB12
    replace o_x4 := obj_below o_x4 hB12
    replace p_xs := p_xs.below hB12
    refine L_mv (L_run (Value.agg #[(.int .i32 ((meetsM xs lo hi).1)), (.int .i32 ((meetsM xs lo hi).2.1))]) (by kernel_rfl) (by kernel_rfl) (L_run (S ((meetsM xs lo hi).2.2.1)) (by kernel_rfl) (by kernel_rfl) (L_run (.bool ((meetsM xs lo hi).2.2.2)) (by kernel_rfl) (by kernel_rfl) (L_new (fun b => .pointer (some ⟨b, 0, none⟩)) (.cells [(.int .i32 0), (.int .i32 0)].toArray 29 (0, 0)) (by kernel_rfl) (by kernel_rfl) ?_))))
    intro b14 w15 hN16
    have ne_m_x7 : b_m ≠ b14 := by have := obj_lt o_m; have := hN16.num; omega
    have ne_x7_m := ne_m_x7.symm
    have ne_x4_x7 : b1 ≠ b14 := by have := obj_lt o_x4; have := hN16.num; omega
    have ne_x7_x4 := ne_x4_x7.symm
    have g_x7 : B_ ≤ b14 := by rw [hN16.num]; exact hs
    have dk_x7 : (World.heap w).size ≤ b14 ∨ (Dm b_m v_xs) b14 := .inl (by rw [hN16.num]; exact hc.size)
    replace hb := hb.trans (hN16.below.mono hs)
    replace hc := hc.trans2 (Ch.of_below hN16.below) (fun _ h => h.elim)
    replace hs := Nat.le_trans hs (hN16.below.size)
    replace o_m := obj_below o_m hN16.below
    replace o_x4 := obj_below o_x4 hN16.below
    replace p_xs := p_xs.below hN16.below
    have o_x7 := hN16.here
    refine L_storeA b14 0 [(.int .i32 ((meetsM xs lo hi).1)), (.int .i32 ((meetsM xs lo hi).2.1))] [(.int .i32 0), (.int .i32 0)] [(.int .i32 ((meetsM xs lo hi).1)), (.int .i32 ((meetsM xs lo hi).2.1))] 29 (by kernel_rfl) (by kernel_rfl) rfl (by kernel_rfl) o_x7 (by kernel_rfl) rfl ?_
    intro w17 hW18
    replace hb := hb.trans (hW18.below g_x7)
    replace hc := hc.trans2 (Ch.of_wrote hW18) (fun k e => e ▸ dk_x7)
    replace hs := Nat.le_trans hs (Nat.le_of_eq hW18.size.symm)
    have n_o_m := obj_wrote o_m hW18 (obj_ne o_m o_x7 (by simp))
    have n_o_x4 := obj_wrote o_x4 hW18 ne_x4_x7
    have n_p_xs := p_xs.wrote hW18 (p_xs.ne o_x7 (by simp))
    replace o_m := n_o_m; clear n_o_m
    replace o_x4 := n_o_x4; clear n_o_x4
    replace p_xs := n_p_xs; clear n_p_xs
    replace o_x7 := hW18.here
    refine L_as (L_as (L_nil (thenQ_normal (W_seq (W_region (L_mv (L_nil (thenQ_normal ?_))))))))
    rcases Bool.eq_false_or_eq_true ((meetsM xs lo hi).2.2.2) with hc19 | hc19
    · skip
      refine W_ifT hc19 (by kernel_rfl) (W_seq (W_region (L_as (L_nil (thenQ_normal (W_ret (thenQ_ret ?_)))))))
      refine end_ret [.tmp 6] [(.int .i64 42)] rfl rfl ⟨by kernel_rfl, trivial⟩ ?_
      have hE : ((42 : Int) = (putE xs lo hi)) ∧ (xs = (putM xs lo hi val)) := ⟨(by first | rfl | exact (put_bad (v := val) (by assumption)).1 | exact (put_bad (by assumption)).2 | exact (put_met (v := val) (by assumption) (by assumption)).1 | exact (put_met (by assumption) (by assumption)).2 | exact (put_ok (v := val) (by assumption) (by assumption)).1 | exact (put_ok (by assumption) (by assumption)).2), (by first | rfl | exact (put_bad (v := val) (by assumption)).1 | exact (put_bad (by assumption)).2 | exact (put_met (v := val) (by assumption) (by assumption)).1 | exact (put_met (by assumption) (by assumption)).2 | exact (put_ok (v := val) (by assumption) (by assumption)).1 | exact (put_ok (by assumption) (by assumption)).2)⟩
      exact ⟨_, congrArg (Value.int .i64) hE.1, o_m, p_xs.cast hE.2, dr_p_xs, hc⟩
    · skip
      refine W_ifF hc19 (by kernel_rfl) (W_skip (thenQ_normal (W_seq (W_region (L_mv (L_loadA b1 0 [(.int .i32 lo), (.int .i32 hi)] (by kernel_rfl) (by kernel_rfl) (by kernel_rfl) (cells_at o_x4 0 (by kernel_rfl)) (L_mv (L_call 58 [(.pointer (some ⟨b_m, 0, none⟩)), (Value.agg #[(.int .i32 lo), (.int .i32 hi)]), (S val)] (by kernel_rfl) (by kernel_rfl) (c_lay_S b_m v_xs xs lo hi val B_ _ hs o_m g_m p_xs (by omega) (by exact hr) (by omega) (by omega) (by exact fun hm => met_free hm (by assumption)) (by exact fun hm => hk hm (by assumption))) ?_))))))))
      rintro _ w21 ⟨q20, rfl, ho24, r_q20, dm22, hC23⟩
      have dr_r_q20 : ∀ g, Value.ownBlock q20 = some g → (World.heap w).size ≤ g ∨ (Dm b_m v_xs) g := fun g hg => (dm22 g hg).elim (fun x => .inl (Nat.le_trans hc.size x)) (fun x => x.elim (fun x => x ▸ dk_m) (fun x => dr_p_xs g x))
      replace hc := hc.trans2 hC23 (fun k e => e.elim (fun x => x ▸ dk_m) (fun x => dr_p_xs k x))
      replace hb := hC23.below hb hs (fun k e => e.elim (fun x => x ▸ g_m) (fun x => (World.ownsRow.lt p_xs k x).1))
      replace hs := Nat.le_trans hs hC23.size
      have n_o_x4 := obj_ch_mut o_x4 hC23 (obj_ne o_x4 o_m (by simp)) (p_xs.ne o_x4 (by simp))
      have n_o_x7 := obj_ch_mut o_x7 hC23 (obj_ne o_x7 o_m (by simp)) (p_xs.ne o_x7 (by simp))
      replace o_x4 := n_o_x4; clear n_o_x4
      replace o_x7 := n_o_x7; clear n_o_x7
      replace o_m := ho24
      refine L_as (L_nil (thenQ_normal (W_ret ?_)))
      refine end_ret [.tmp 6] [(.int .i64 (layE lo hi))] rfl rfl ⟨by kernel_rfl, trivial⟩ ?_
      have hE : (((layE lo hi) : Int) = (putE xs lo hi)) ∧ ((layF xs lo hi val) = (putM xs lo hi val)) := ⟨(by first | rfl | exact (put_bad (v := val) (by assumption)).1 | exact (put_bad (by assumption)).2 | exact (put_met (v := val) (by assumption) (by assumption)).1 | exact (put_met (by assumption) (by assumption)).2 | exact (put_ok (v := val) (by assumption) (by assumption)).1 | exact (put_ok (by assumption) (by assumption)).2), (by first | rfl | exact (put_bad (v := val) (by assumption)).1 | exact (put_bad (by assumption)).2 | exact (put_met (v := val) (by assumption) (by assumption)).1 | exact (put_met (by assumption) (by assumption)).2 | exact (put_ok (v := val) (by assumption) (by assumption)).1 | exact (put_ok (by assumption) (by assumption)).2)⟩
      exact ⟨_, congrArg (Value.int .i64) hE.1, o_m, r_q20.cast hE.2, dr_r_q20, hc⟩
  · intro h25
    refine L_not false (by kernel_rfl) (L_as (L_nil (thenQ_normal (W_true (by kernel_rfl) (W_seq (W_region (L_as (L_nil (thenQ_normal (W_ret (blkQ_ret (thenQ_ret ?_))))))))))))
    refine end_ret [.tmp 6] [(.int .i64 41)] rfl rfl ⟨by kernel_rfl, trivial⟩ ?_
    have hE : ((41 : Int) = (putE xs lo hi)) ∧ (xs = (putM xs lo hi val)) := ⟨(by first | rfl | exact (put_bad (v := val) (by assumption)).1 | exact (put_bad (by assumption)).2 | exact (put_met (v := val) (by assumption) (by assumption)).1 | exact (put_met (by assumption) (by assumption)).2 | exact (put_ok (v := val) (by assumption) (by assumption)).1 | exact (put_ok (by assumption) (by assumption)).2), (by first | rfl | exact (put_bad (v := val) (by assumption)).1 | exact (put_bad (by assumption)).2 | exact (put_met (v := val) (by assumption) (by assumption)).1 | exact (put_met (by assumption) (by assumption)).2 | exact (put_ok (v := val) (by assumption) (by assumption)).1 | exact (put_ok (by assumption) (by assumption)).2)⟩
    exact ⟨_, congrArg (Value.int .i64) hE.1, o_m, p_xs.cast hE.2, dr_p_xs, hc⟩

end Go.Proofs.Ytmjkegpbbhafjaa
