/- Walks, written by my program walk.py out of the specification pall.py: each theorem says what one function returns and that it leaves memory as it was. -/
import Derived.Test.YtmjkegpbbhafjaaPLay
import Derived.Test.YtmjkegpbbhafjaaWphex
import Derived.Test.YtmjkegpbbhafjaaWpmap
import Derived.Test.YtmjkegpbbhafjaaWprep
import Derived.Test.YtmjkegpbbhafjaaWplay
import Derived.Test.YtmjkegpbbhafjaaFKt
import Derived.Test.YtmjkegpbbhafjaaProg
import Derived.Tactics2
namespace Go.Proofs.Ytmjkegpbbhafjaa
open Go Go.RowKit Go.FK
set_option linter.unusedVariables false


set_option maxHeartbeats 4000000 in
set_option maxRecDepth 100000 in
theorem c_clone_S (v_s : Value) (s : List (Int × Int × List UInt8)) (w : World) (p_s : Rd w encSpanS v_s s) (hl : s.length ≤ 1000000) :
    Calls Try.prog 88 #[v_s] w (Ret fun v w' => ∃ (q0 : Value), v = q0 ∧ Row w' w.heap.size 152 3 encSpanS q0 s ∧ Below w.heap.size w w') := by
  refine enter (args := [v_s]) Try.func88 rfl (by kernel_rfl : _ = 8) (by kernel_rfl) ?_
  have hb := Below.refl w.heap.size w
  have hs : w.heap.size ≤ w.heap.size := Nat.le_refl _
  have in_p_s := p_s
  refine W_seq (W_region (L_as (L_nil (thenQ_normal (W_seq (W_seq (W_region (L_mv (L_snil v_s s p_s (by kernel_rfl) (by kernel_rfl) (fun _ _ _ => by kernel_rfl) (fun _ _ _ _ => by kernel_rfl) ?_ ?_)))))))))
  · intro h1
    refine L_nil (thenQ_normal (W_true (by kernel_rfl) (W_seq (W_region (L_as (L_nil (thenQ_normal (W_ret (thenQ_ret ?_)))))))))
    refine end_ret [.tmp 2] [(.slice none 0 0)] rfl rfl ⟨by kernel_rfl, trivial⟩ ?_
    have e0 : ([] : List (Int × Int × List UInt8)) = s := by first | (subst s; rfl) | rfl | (rw [List.nil_append]; done)
    exact ⟨(.slice none 0 0), rfl, (Row.nil _ _ _ _ _).cast e0, hb⟩
  · refine L_nil (thenQ_normal (W_false (by kernel_rfl) (W_skip (thenQ_normal (W_seq (W_region (L_new (fun b => .slice (some ⟨b, 0, none⟩) 0 0) (.cells [].toArray 152 (0, 0)) (by kernel_rfl) (by kernel_rfl) ?_)))))))
    intro b2 w3 hN4
    have g_b2 : w.heap.size ≤ b2 := by rw [hN4.num]; exact hs
    replace hb := hb.trans (hN4.below.mono hs)
    replace hs := Nat.le_trans hs (hN4.below.size)
    replace p_s := p_s.below hN4.below
    have r_b2 : Row w3 w.heap.size 152 3 encSpanS (.slice (some ⟨b2, 0, none⟩) 0 0) ([] : List (Int × Int × List UInt8)) := Row.made ([] : List (Int × Int × List UInt8)) hN4 g_b2 rfl rfl (by first | decide | (simp; done))
    refine L_mv (L_appAll el148 w.heap.size (.slice (some ⟨b2, 0, none⟩) 0 0) v_s ([] : List (Int × Int × List UInt8)) s hs r_b2 p_s (by first | omega | (simp only [List.length_nil]; omega)) (fun _ => rfl) (fun _ => rfl) (by kernel_rfl) (by kernel_rfl) (by kernel_rfl) ?_)
    intro v5 w6 hr7 hg8 how9 
    replace hb := hb.grown hg8 hs (fun k hk => (World.ownsRow.lt r_b2 k hk).1)
    replace hs := Nat.le_trans hs (hg8.size)
    have n_p_s := in_p_s.below hb
    replace p_s := n_p_s; clear n_p_s
    replace r_b2 := hr7
    refine L_as (L_nil (thenQ_normal (W_ret ?_)))
    refine end_ret [.tmp 2] [v5] rfl rfl ⟨by kernel_rfl, trivial⟩ ?_
    have e0 : (([] : List (Int × Int × List UInt8)) ++ s) = s := by first | (subst s; rfl) | rfl | (rw [List.nil_append]; done)
    exact ⟨v5, rfl, r_b2.cast e0, hb⟩

set_option maxHeartbeats 4000000 in
set_option maxRecDepth 100000 in
theorem it_all_S (bx_m b_m : Nat) (v_xs : Value) (xs : List (Int × Int × List UInt8)) (hl : xs.length ≤ 1000000) :
    Iter (α := Sp) Try.prog 87 [.pointer (some ⟨bx_m, 0, none⟩)] (fun x => [.agg #[.int .i32 x.1, .int .i32 x.2.1], S x.2.2]) xs (fun w => w.heap[bx_m]? = some (.cells [(.pointer (some ⟨b_m, 0, none⟩))].toArray 76 (0, 0)) ∧ w.heap[b_m]? = some (.cells [v_xs, (.bool true)].toArray 150 (0, 0)) ∧ Rd w encSpanS v_xs xs) := by
  intro l J Jx w hN h0 hJs hJxs hY
  refine enter (args := [(.func (.yield l) #[] #[]), (.pointer (some ⟨bx_m, 0, none⟩))]) Try.func87 rfl (by kernel_rfl : _ = 28) (by kernel_rfl) ?_
  have hb := Below.refl w.heap.size w
  have hs : w.heap.size ≤ w.heap.size := Nat.le_refl _
  obtain ⟨o_capm, o_capmm, p_xs⟩ := hN
  have in_p_xs := p_xs
  refine W_seq (W_seq (W_region (L_load bx_m 0 (.pointer (some ⟨b_m, 0, none⟩)) (by kernel_rfl) (by kernel_rfl) (cell_obj o_capm rfl) (L_call 86 [(.pointer (some ⟨b_m, 0, none⟩))] (by kernel_rfl) (by kernel_rfl) (c_none_S b_m v_xs xs _ o_capmm p_xs) ?_))))
  rintro _ w1 ⟨rfl, hB2⟩
  replace hb := hb.trans (hB2.mono hs)
  replace hs := Nat.le_trans hs (hB2.size)
  replace o_capm := obj_below o_capm hB2
  replace o_capmm := obj_below o_capmm hB2
  replace p_xs := p_xs.below hB2
  refine L_nil (thenQ_normal (W_false (by kernel_rfl) (W_skip (thenQ_normal (W_seq (W_region (L_load bx_m 0 (.pointer (some ⟨b_m, 0, none⟩)) (by kernel_rfl) (by kernel_rfl) (cell_obj o_capm rfl) (L_run (.pointer (some ⟨b_m, 0, none⟩)) (by kernel_rfl) (by kernel_rfl) (L_run (.pointer (some ⟨b_m, 0, none⟩)) (by kernel_rfl) (by kernel_rfl) (L_load b_m 0 v_xs (by kernel_rfl) (by kernel_rfl) (cell_obj o_capmm rfl) (L_call 88 [v_xs] (by kernel_rfl) (by kernel_rfl) (c_clone_S v_xs xs _ p_xs (by omega)) ?_)))))))))))
  rintro q4 w5 ⟨_, rfl, r_q4, hB6⟩
  replace r_q4 := r_q4.base hs
  replace hb := hb.trans (hB6.mono hs)
  replace hs := Nat.le_trans hs (hB6.size)
  replace o_capm := obj_below o_capm hB6
  replace o_capmm := obj_below o_capmm hB6
  replace p_xs := p_xs.below hB6
  refine L_len 148 152 (xs).length q4 rfl Try.underlying148 (r_q4.rd).len (by kernel_rfl) (L_mv (L_nil (thenQ_normal (W_block ?_))))
  have hJ := h0 _ hb
  obtain ⟨K, hKe⟩ : ∃ K, K = w5.heap.size := ⟨_, rfl⟩
  rw [← hKe] at hJ
  have hK : K ≤ w5.heap.size := by omega
  have hK0 : w.heap.size ≤ K := by omega
  have ivr_r_q4 : ∀ g, Value.ownBlock q4 = some g → Iv w.heap.size K g := fun g hg => by have := World.ownsRow.lt r_q4 g hg; exact ⟨this.1, by omega⟩
  refine W_loop (fun m s0 w0 => ∃ (i : Nat) (pre : List Sp), (m = xs.length - i) ∧ (s0.ds = []) ∧ (s0.f 0 = (.func (.yield l) #[] #[])) ∧ (s0.f 11 = q4) ∧ (s0.f 12 = (.int .i64 (((xs).length : Nat) : Int))) ∧ (s0.f 13 = (.int .i64 ((i : Nat) : Int))) ∧ (Rd w0 encSpanS v_xs xs) ∧ (Row w0 w.heap.size 152 3 encSpanS q4 xs) ∧ (w0.heap[bx_m]? = some (.cells [(.pointer (some ⟨b_m, 0, none⟩))].toArray 76 (0, 0))) ∧ (w0.heap[b_m]? = some (.cells [v_xs, (.bool true)].toArray 150 (0, 0))) ∧ (w.heap.size ≤ w0.heap.size) ∧ (K ≤ w0.heap.size) ∧ (J K pre w0) ∧ (i ≤ xs.length) ∧ (pre = xs.take i)) _ ⟨0, [], rfl, by kernel_rfl, by kernel_rfl, by kernel_rfl, by kernel_rfl, by kernel_rfl, p_xs, r_q4, o_capm, o_capmm, hs, hK, hJ, by omega, rfl⟩ ?_
  rintro m8 s9 w10 ⟨i, pre, hm, hds, f_0, f_11, f_12, f_13, p_xs, r_q4, o_capm, o_capmm, hs, hK, hJ, i1, hpq⟩
  refine W_set 0 _ f_0 (W_set 11 _ f_11 (W_set 12 _ f_12 (W_set 13 _ f_13 ?_)))
  clear f_0 f_11 f_12 f_13
  refine W_seq (W_region (L_cmp .i64 ((i : Nat) : Int) (((xs).length : Nat) : Int) (i < (xs).length) rfl (cmpN_lt i ((xs).length)) (by kernel_rfl) (by kernel_rfl) ?_ ?_))
  · intro h11
    replace h11 : i < (xs).length := by omega
    refine L_nil (thenQ_normal (W_seq (W_true (by kernel_rfl) (W_skip (thenQ_normal (W_seq (W_block (W_seq (W_region ?_)))))))))
    have hz := get_some xs i (by omega); obtain ⟨x12, hx13⟩ := hz
    have hz := (r_q4.rd).at (k := 3) (fun _ => rfl) hx13
    obtain ⟨g14, off15, hl16, hc17⟩ := hz
    refine L_ixaddr (k := .i64) q4 i _ g14 off15 el148 hl16 (by omega) (by kernel_rfl) (by kernel_rfl) (L_loadA g14 (off15 + i * 3) [(.int .i32 x12.1), (.int .i32 x12.2.1), (S x12.2.2)] (by kernel_rfl) (by kernel_rfl) (by kernel_rfl) hc17 (L_new (fun b => .pointer (some ⟨b, 0, none⟩)) (.cells [(.int .i32 0), (.int .i32 0), (S ([] : List UInt8))].toArray 152 (0, 0)) (by kernel_rfl) (by kernel_rfl) ?_))
    intro b18 w19 hN20
    have ne_capm_x4 : bx_m ≠ b18 := by have := obj_lt o_capm; have := hN20.num; omega
    have ne_x4_capm := ne_capm_x4.symm
    have ne_capmm_x4 : b_m ≠ b18 := by have := obj_lt o_capmm; have := hN20.num; omega
    have ne_x4_capmm := ne_capmm_x4.symm
    have g_x4 : w.heap.size ≤ b18 := by rw [hN20.num]; exact hs
    have hCJ := Ch.refl (Iv w.heap.size K) w10
    have jv_x4 : (World.heap w10).size ≤ b18 ∨ Iv w.heap.size K b18 := .inl (by rw [hN20.num]; exact hCJ.size)
    have nb_o_x4_r_q4 := r_q4.new_ne hN20
    replace hCJ := hCJ.trans2 (Ch.of_below hN20.below) (fun _ h => h.elim)
    replace hK := Nat.le_trans hK (hN20.below.size)
    replace hs := Nat.le_trans hs (hN20.below.size)
    replace o_capm := obj_below o_capm hN20.below
    replace o_capmm := obj_below o_capmm hN20.below
    replace p_xs := p_xs.below hN20.below
    replace r_q4 := r_q4.below hN20.below
    have o_x4 := hN20.here
    refine L_storeA b18 0 [(.int .i32 x12.1), (.int .i32 x12.2.1), (S x12.2.2)] [(.int .i32 0), (.int .i32 0), (S ([] : List UInt8))] [(.int .i32 x12.1), (.int .i32 x12.2.1), (S x12.2.2)] 152 (by kernel_rfl) (by kernel_rfl) rfl (by kernel_rfl) o_x4 (by kernel_rfl) rfl ?_
    intro w21 hW22
    replace hCJ := hCJ.trans2 (Ch.of_wrote hW22) (fun k e => e ▸ jv_x4)
    replace hK := Nat.le_trans hK (Nat.le_of_eq hW22.size.symm)
    replace hs := Nat.le_trans hs (Nat.le_of_eq hW22.size.symm)
    have n_o_capm := obj_wrote o_capm hW22 (obj_ne o_capm o_x4 (by simp))
    have n_o_capmm := obj_wrote o_capmm hW22 (obj_ne o_capmm o_x4 (by simp))
    have n_p_xs := Rd.ch in_p_xs (Nat.le_refl _) p_xs (Ch.of_wrote hW22) (fun k e => e ▸ g_x4)
    have n_r_q4 := r_q4.wrote hW22 nb_o_x4_r_q4
    replace o_capm := n_o_capm; clear n_o_capm
    replace o_capmm := n_o_capmm; clear n_o_capmm
    replace p_xs := n_p_xs; clear n_p_xs
    replace r_q4 := n_r_q4; clear n_r_q4
    replace o_x4 := hW22.here
    refine L_nil (thenQ_normal (W_seq (W_region (L_mv (L_run (.pointer (some ⟨b18, 0, none⟩)) (by kernel_rfl) (by kernel_rfl) (L_load b18 0 (.int .i32 x12.1) (by kernel_rfl) (by kernel_rfl) (cell_obj o_x4 rfl) (L_run (.pointer (some ⟨b18, 1, none⟩)) (by kernel_rfl) (by kernel_rfl) (L_load b18 1 (.int .i32 x12.2.1) (by kernel_rfl) (by kernel_rfl) (cell_obj o_x4 rfl) (L_run (Value.agg #[(.int .i32 x12.1), (.int .i32 x12.2.1)]) (by kernel_rfl) (by kernel_rfl) (L_run (.pointer (some ⟨b18, 2, none⟩)) (by kernel_rfl) (by kernel_rfl) (L_load b18 2 (S x12.2.2) (by kernel_rfl) (by kernel_rfl) (cell_obj o_x4 rfl) ?_)))))))))))
    replace hJ := hJs _ _ _ _ hJ hCJ
    clear hCJ
    have hpre : pre ++ [((x12.1, x12.2.1, x12.2.2) : Sp)] <+: xs := by rw [hpq]; exact take_pre (by assumption)
    refine L_yield l [(Value.agg #[(.int .i32 x12.1), (.int .i32 x12.2.1)]), (S x12.2.2)] (by kernel_rfl) (by kernel_rfl) (hY K pre ((x12.1, x12.2.1, x12.2.2) : Sp) _ hJ ⟨o_capm, o_capmm, p_xs⟩ hK0 hK hpre) ?_
    rintro e w23 (⟨rfl, hJ', hk, hN'⟩ | ⟨rfl, hJx, hk⟩)
    · refine ⟨true, rfl, ?_⟩
      replace r_q4 := r_q4.kp hk ivr_r_q4
      replace hs := Nat.le_trans hs hk.size
      replace hK := Nat.le_trans hK hk.size
      replace hJ := hJ'
      obtain ⟨o_capm, o_capmm, p_xs⟩ := hN'
      refine L_not true (by kernel_rfl) (L_nil (thenQ_normal (W_false (by kernel_rfl) (W_skip (blkQ_normal (thenQ_normal (W_region (L_addN i 1 (by omega) (by kernel_rfl) (by kernel_rfl) (L_mv (L_nil ?_))))))))))
      refine thenQ_normal ⟨_, ?_, (i + 1), (pre ++ [((x12.1, x12.2.1, x12.2.2) : Sp)]), rfl, hds, by kernel_rfl, by kernel_rfl, by kernel_rfl, by kernel_rfl, p_xs, r_q4, o_capm, o_capmm, hs, hK, hJ, ?_, ?_⟩
      · omega
      · omega
      · rw [hpq]; exact take_snoc (by assumption)
    · refine ⟨false, rfl, ?_⟩
      replace r_q4 := r_q4.kp hk ivr_r_q4
      replace hs := Nat.le_trans hs hk.size
      replace hK := Nat.le_trans hK hk.size
      refine L_not false (by kernel_rfl) (L_nil (thenQ_normal (W_true (by kernel_rfl) (W_ret (blkQ_ret (thenQ_ret (thenQ_ret (blkQ_ret ?_))))))))
      refine end_ret [] [] rfl hds trivial ?_
      exact ⟨hs, Or.inr ⟨K, _, _, hpre, hJx⟩⟩
  · intro h24
    replace h24 : (xs).length ≤ i := by omega
    refine L_nil (thenQ_normal (W_seq (W_false (by kernel_rfl) (W_exit (thenQ_exit (thenQ_exit (blkQ_exit ?_)))))))
    refine end_normal [] [] rfl hds trivial ?_
    have epre : pre = xs := by first | (rw [hpq, List.take_of_length_le (by omega)]; done)
    rw [epre] at hJ
    exact ⟨hs, Or.inl ⟨K, hJ⟩⟩

set_option maxHeartbeats 4000000 in
set_option maxRecDepth 100000 in
theorem c_all_S (b_m : Nat) (v_xs : Value) (xs : List (Int × Int × List UInt8)) (w : World) (o_m : w.heap[b_m]? = some (.cells [v_xs, (.bool true)].toArray 150 (0, 0))) (p_xs : Rd w encSpanS v_xs xs) :
    Calls Try.prog 51 #[(.pointer (some ⟨b_m, 0, none⟩))] w (Ret fun v w' => ∃ (cb0 : Nat), v = (.func (.func 87) #[] #[(.pointer (some ⟨cb0, 0, none⟩))]) ∧ w'.heap[cb0]? = some (.cells [(.pointer (some ⟨b_m, 0, none⟩))].toArray 76 (0, 0)) ∧ w.heap.size ≤ cb0 ∧ Below w.heap.size w w') := by
  refine enter (args := [(.pointer (some ⟨b_m, 0, none⟩))]) Try.func51 rfl (by kernel_rfl : _ = 4) (by kernel_rfl) ?_
  have hb := Below.refl w.heap.size w
  have hs : w.heap.size ≤ w.heap.size := Nat.le_refl _
  have in_p_xs := p_xs
  refine W_seq (W_region (L_new (fun b => .pointer (some ⟨b, 0, none⟩)) (.cells [(.pointer (some ⟨b_m, 0, none⟩))].toArray 76 (0, 0)) (by kernel_rfl) (by kernel_rfl) ?_))
  intro b1 w2 hN3
  have ne_m_x1 : b_m ≠ b1 := by have := obj_lt o_m; have := hN3.num; omega
  have ne_x1_m := ne_m_x1.symm
  have g_x1 : w.heap.size ≤ b1 := by rw [hN3.num]; exact hs
  replace hb := hb.trans (hN3.below.mono hs)
  replace hs := Nat.le_trans hs (hN3.below.size)
  replace o_m := obj_below o_m hN3.below
  replace p_xs := p_xs.below hN3.below
  have o_x1 := hN3.here
  refine L_as (L_nil (thenQ_normal (W_seq (W_region (L_run (.func (.func 87) #[] #[(.pointer (some ⟨b1, 0, none⟩))]) (by kernel_rfl) (by kernel_rfl) (L_as (L_nil (thenQ_normal (W_ret ?_)))))))))
  refine end_ret [.tmp 2] [(.func (.func 87) #[] #[(.pointer (some ⟨b1, 0, none⟩))])] rfl rfl ⟨by kernel_rfl, trivial⟩ ?_
  exact ⟨b1, rfl, o_x1, g_x1, hb⟩

end Go.Proofs.Ytmjkegpbbhafjaa
