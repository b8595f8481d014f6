/- Walks, written by my program walk.py out of the specification lthere.py: each theorem says what one function returns and that it leaves memory as it was. -/
import Derived.Test.YtapndpldphflcaaDoorPLthere
import Derived.Test.YtapndpldphflcaaDoorWllines
import Derived.Test.YtapndpldphflcaaDoorWlscan
import Derived.Test.YtapndpldphflcaaDoorWlread
import Derived.Test.YtapndpldphflcaaDoorWlawake
import Derived.Test.YtapndpldphflcaaDoorWlref
import Derived.Test.YtapndpldphflcaaDoorWlplace
import Derived.Test.YtapndpldphflcaaDoorWlwhere
import Derived.Test.YtapndpldphflcaaDoorFKu
import Derived.Test.YtapndpldphflcaaDoorProg
import Derived.Tactics2
namespace Go.Proofs.YtapndpldphflcaaDoor
open Go Go.RowKit Go.FK
set_option linter.unusedVariables false
set_option linter.unusedSimpArgs false

theorem el73 : Elem Tryd.prog 73 4 1 1 := ⟨Tryd.underlying73, by kernel_rfl, rfl⟩
set_option maxHeartbeats 4000000 in
set_option maxRecDepth 100000 in
theorem c_furrowlaw03_LinesThere (s : List UInt8) (w : World) (hty : w.cell? ⟨0, 0, none⟩ = some (.iface 116 (.agg #[.pointer (some ⟨4, 56, none⟩)]))) (hs : s.length ≤ 1048576) :
    Calls Tryd.prog 13 #[(S s)] w (Ret fun v w' => v = (.bool true) ∧ Below w.heap.size w w') := by
  refine enter (args := [(S s)]) Tryd.func13 rfl (by kernel_rfl : _ = 126) (by kernel_rfl) ?_
  have hb := Below.refl w.heap.size w
  have hs : w.heap.size ≤ w.heap.size := Nat.le_refl _
  have hpr := pcsR_len s
  have hml := mark_len s
  refine W_seq (W_region (L_as (L_nil (thenQ_normal (W_seq (W_seq (W_region (L_call 16 [] (by kernel_rfl) (by kernel_rfl) (c_furrowlaw03_awake  _ (gcell_below hty hb)) ?_))))))))
  rintro _ w1 ⟨rfl, hB2⟩
  replace hb := hb.trans (hB2.mono hs)
  replace hs := Nat.le_trans hs (hB2.size)
  refine L_not true (by kernel_rfl) (L_nil (thenQ_normal (W_false (by kernel_rfl) (W_skip (thenQ_normal (W_seq (W_seq (W_region (L_mv (L_slen 9 s rfl Tryd.underlying9 (by kernel_rfl) (L_cmp .i64 (((s).length : Nat) : Int) ((2000 : Nat) : Int) (2000 < (s).length) rfl (cmpN_gt ((s).length) 2000) (by kernel_rfl) (by kernel_rfl) ?_ ?_)))))))))))
  · intro h4
    replace h4 : 2000 < (s).length := by omega
    refine L_nil (thenQ_normal (W_true (by kernel_rfl) (W_seq (W_region (L_as (L_nil (thenQ_normal (W_ret (thenQ_ret ?_)))))))))
    refine end_ret [.tmp 2] [(.bool true)] rfl rfl ⟨by kernel_rfl, trivial⟩ ?_
    have e0 : true = true := by first | rfl | (exfalso; omega) | (exfalso; have hz := good_true i2 (by assumption) (by assumption); omega)
    exact ⟨congrArg Value.bool e0, hb⟩
  · intro h5
    replace h5 : (s).length ≤ 2000 := by omega
    refine L_nil (thenQ_normal (W_false (by kernel_rfl) (W_skip (thenQ_normal (W_seq (W_region (L_mv (L_slen 9 s rfl Tryd.underlying9 (by kernel_rfl) (L_addN ((s).length) 1 (by omega) (by kernel_rfl) (by kernel_rfl) (L_makeB (m := ((s).length + 1)) (kl := .i64) (kc := .i64) el73 (by kernel_rfl) (by kernel_rfl) (by kernel_rfl) (by first | omega | (simp only [List.length_drop, List.length_take]; omega) | (simp only [List.length_replicate]; omega)) (by first | omega | (simp only [List.length_drop, List.length_take]; omega) | (simp only [List.length_replicate]; omega)) ?_))))))))))
    intro b6 w7 hN8
    have g_b6 : w.heap.size ≤ b6 := by rw [hN8.num]; exact hs
    replace hb := hb.trans (hN8.below.mono hs)
    replace hs := Nat.le_trans hs (hN8.below.size)
    have r_b6 : Row w7 w.heap.size 4 1 encBool (.slice (some ⟨b6, 0, none⟩) ((s).length + 1) ((s).length + 1)) (List.replicate ((s).length + 1) false) := Row.madeB hN8 g_b6 (by first | omega | (simp only [List.length_drop, List.length_take]; omega) | (simp only [List.length_replicate]; omega))
    refine L_as (L_nil (thenQ_normal (W_seq (W_region (L_mv (L_mv (L_slen 9 s rfl Tryd.underlying9 (by kernel_rfl) ?_)))))))
    have hz := get_some (List.replicate ((s).length + 1) false) ((s).length) (by first | omega | (simp only [List.length_drop, List.length_take]; omega) | (simp only [List.length_replicate]; omega)); obtain ⟨x9, hx10⟩ := hz
    have hz := (r_b6.rd).at (k := 1) (fun _ => rfl) hx10
    obtain ⟨g11, off12, hl13, hc14⟩ := hz
    refine L_ixaddr (k := .i64) (.slice (some ⟨b6, 0, none⟩) ((s).length + 1) ((s).length + 1)) ((s).length) _ g11 off12 el73 hl13 (by first | omega | (simp only [List.length_drop, List.length_take]; omega) | (simp only [List.length_replicate]; omega)) (by kernel_rfl) (by kernel_rfl) (L_storeRow ((s).length) 0 g11 off12 x9 true (.bool true) r_b6 (fun _ => rfl) hx10 hl13 (by kernel_rfl) (by kernel_rfl) rfl (by kernel_rfl) (by kernel_rfl) rfl ?_)
    intro w15 hr16 hg17
    replace hb := hb.grown hg17 hs (fun k hk => (World.ownsRow.lt r_b6 k hk).1)
    replace hs := Nat.le_trans hs (hg17.size)
    replace r_b6 := hr16
    have hx18 : (List.set (List.replicate ((s).length + 1) false) ((s).length) true)[((s).length)]? = some true := set_here hx10
    refine L_nil (thenQ_normal (W_seq (W_seq (W_region (L_mv (L_call 17 [(S s)] (by kernel_rfl) (by kernel_rfl) (c_furrowref03_Pieces s _ (by first | omega | (simp only [List.length_drop, List.length_take]; omega) | (simp only [List.length_replicate]; omega))) ?_))))))
    rintro q19 w20 ⟨_, rfl, r_q19, hB21⟩
    replace r_q19 := r_q19.base hs
    replace hb := hb.trans (hB21.mono hs)
    replace hs := Nat.le_trans hs (hB21.size)
    replace r_b6 := r_b6.below hB21
    refine L_len 23 75 (pcsR s).length q19 rfl Tryd.underlying23 (r_q19.rd).len (by kernel_rfl) (L_mv (L_nil (thenQ_normal (W_block ?_))))
    refine W_loop (fun m s0 w0 => ∃ (k : Nat) (B : List Bool) (v_3 : Value), (m = (pcsR s).length - k) ∧ (s0.ds = []) ∧ (s0.f 0 = (S s)) ∧ (s0.f 2 = (.bool false)) ∧ (s0.f 29 = q19) ∧ (s0.f 30 = (.int .i64 (((pcsR s).length : Nat) : Int))) ∧ (s0.f 3 = v_3) ∧ (s0.f 31 = (.int .i64 ((k : Nat) : Int))) ∧ (Row w0 w.heap.size 75 3 encPcN q19 (pcsR s)) ∧ (Row w0 w.heap.size 4 1 encBool v_3 B) ∧ (Below w.heap.size w w0) ∧ (w.heap.size ≤ w0.heap.size) ∧ (k ≤ (pcsR s).length) ∧ (goodRow s B)) _ ⟨0, (List.set (List.replicate ((s).length + 1) false) ((s).length) true), (.slice (some ⟨b6, 0, none⟩) ((s).length + 1) ((s).length + 1)), rfl, by kernel_rfl, by kernel_rfl, by kernel_rfl, by kernel_rfl, by kernel_rfl, by kernel_rfl, by kernel_rfl, r_q19, r_b6, hb, hs, (Nat.zero_le _), good_set (good_zero s) (good_len s)⟩ ?_
    rintro m23 s24 w25 ⟨k, B, v_3, hm, hds, f_0, f_2, f_29, f_30, f_3, f_31, r_q19, r_3, hb, hs, i1, i2⟩
    refine W_set 0 _ f_0 (W_set 2 _ f_2 (W_set 29 _ f_29 (W_set 30 _ f_30 (W_set 3 _ f_3 (W_set 31 _ f_31 ?_)))))
    clear f_0 f_2 f_29 f_30 f_3 f_31
    have hB := i2.1
    refine W_seq (W_region (L_cmp .i64 ((k : Nat) : Int) (((pcsR s).length : Nat) : Int) (k < (pcsR s).length) rfl (cmpN_lt k ((pcsR s).length)) (by kernel_rfl) (by kernel_rfl) ?_ ?_))
    · intro h26
      replace h26 : k < (pcsR s).length := by omega
      refine L_nil (thenQ_normal (W_seq (W_true (by kernel_rfl) (W_skip (thenQ_normal (W_seq (W_block (W_seq (W_region ?_)))))))))
      have hz := get_some (pcsR s) k (by first | omega | (simp only [List.length_drop, List.length_take]; omega) | (simp only [List.length_replicate]; omega)); obtain ⟨x27, hx28⟩ := hz
      have hz := (r_q19.rd).at (k := 3) (fun _ => rfl) hx28
      obtain ⟨g29, off30, hl31, hc32⟩ := hz
      have hp_x27 := pcsR_ok hx28
      have hl_x27 : (List.drop x27.1 (List.take x27.2.1 s)).length = x27.2.1 - x27.1 := by simp only [List.length_drop, List.length_take]; omega
      refine L_ixaddr (k := .i64) q19 k _ g29 off30 el23 hl31 (by first | omega | (simp only [List.length_drop, List.length_take]; omega) | (simp only [List.length_replicate]; omega)) (by kernel_rfl) (by kernel_rfl) (L_loadA g29 (off30 + k * 3) [(.int .i64 ((x27.1 : Nat) : Int)), (.int .i64 ((x27.2.1 : Nat) : Int)), (.int .i64 ((x27.2.2 : Nat) : Int))] (by kernel_rfl) (by kernel_rfl) (by kernel_rfl) hc32 (L_new (fun b => .pointer (some ⟨b, 0, none⟩)) (.cells [(.int .i64 0), (.int .i64 0), (.int .i64 0)].toArray 75 (0, 0)) (by kernel_rfl) (by kernel_rfl) ?_))
      intro b33 w34 hN35
      have g_x5 : w.heap.size ≤ b33 := by rw [hN35.num]; exact hs
      have nb_o_x5_r_q19 := r_q19.new_ne hN35
      replace hb := hb.trans (hN35.below.mono hs)
      replace hs := Nat.le_trans hs (hN35.below.size)
      replace r_q19 := r_q19.below hN35.below
      replace r_3 := r_3.below hN35.below
      have o_x5 := hN35.here
      refine L_storeA b33 0 [(.int .i64 ((x27.1 : Nat) : Int)), (.int .i64 ((x27.2.1 : Nat) : Int)), (.int .i64 ((x27.2.2 : Nat) : Int))] [(.int .i64 0), (.int .i64 0), (.int .i64 0)] [(.int .i64 ((x27.1 : Nat) : Int)), (.int .i64 ((x27.2.1 : Nat) : Int)), (.int .i64 ((x27.2.2 : Nat) : Int))] 75 (by kernel_rfl) (by kernel_rfl) rfl (by kernel_rfl) o_x5 (by kernel_rfl) rfl ?_
      intro w36 hW37
      replace hb := hb.trans (hW37.below g_x5)
      replace hs := Nat.le_trans hs (Nat.le_of_eq hW37.size.symm)
      have n_r_q19 := r_q19.wrote hW37 nb_o_x5_r_q19
      have n_r_3 := r_3.wrote hW37 (r_3.ne o_x5 (by simp))
      replace r_q19 := n_r_q19; clear n_r_q19
      replace r_3 := n_r_3; clear n_r_3
      replace o_x5 := hW37.here
      refine L_nil (thenQ_normal (W_seq (W_seq (W_region (L_mv (L_run (.pointer (some ⟨b33, 0, none⟩)) (by kernel_rfl) (by kernel_rfl) (L_load b33 0 (.int .i64 ((x27.1 : Nat) : Int)) (by kernel_rfl) (by kernel_rfl) (cell_obj o_x5 rfl) (L_run (.pointer (some ⟨b33, 1, none⟩)) (by kernel_rfl) (by kernel_rfl) (L_load b33 1 (.int .i64 ((x27.2.1 : Nat) : Int)) (by kernel_rfl) (by kernel_rfl) (cell_obj o_x5 rfl) (L_sslice s x27.1 x27.2.1 Tryd.underlying9 (by kernel_rfl) ⟨.i64, by kernel_rfl⟩ ⟨.i64, by kernel_rfl⟩ (by first | omega | (simp only [List.length_drop, List.length_take]; omega) | (simp only [List.length_replicate]; omega)) (by first | omega | (simp only [List.length_drop, List.length_take]; omega) | (simp only [List.length_replicate]; omega)) (L_call 39 [(S (List.drop x27.1 (List.take x27.2.1 s)))] (by kernel_rfl) (by kernel_rfl) (c_furrowref03_Chars (List.drop x27.1 (List.take x27.2.1 s)) _ (by first | omega | (simp only [List.length_drop, List.length_take]; omega) | (simp only [List.length_replicate]; omega))) ?_)))))))))))
      rintro q38 w39 ⟨_, rfl, r_q38, hB40⟩
      replace r_q38 := r_q38.base hs
      replace hb := hb.trans (hB40.mono hs)
      replace hs := Nat.le_trans hs (hB40.size)
      replace o_x5 := obj_below o_x5 hB40
      replace r_q19 := r_q19.below hB40
      replace r_3 := r_3.below hB40
      have := chF_len (List.drop x27.1 (List.take x27.2.1 s))
      have := chars_len (List.drop x27.1 (List.take x27.2.1 s))
      refine L_len 76 79 (chF (List.drop x27.1 (List.take x27.2.1 s))).length q38 rfl Tryd.underlying76 (r_q38.rd).len (by kernel_rfl) (L_mv (L_nil (thenQ_normal (W_block ?_))))
      refine W_loop (fun m s0 w0 => ∃ (j : Nat) (B2 : List Bool) (v_3 : Value), (m = (chF (List.drop x27.1 (List.take x27.2.1 s))).length - j) ∧ (s0.ds = []) ∧ (s0.f 0 = (S s)) ∧ (s0.f 2 = (.bool false)) ∧ (s0.f 5 = (.pointer (some ⟨b33, 0, none⟩))) ∧ (s0.f 29 = q19) ∧ (s0.f 30 = (.int .i64 (((pcsR s).length : Nat) : Int))) ∧ (s0.f 31 = (.int .i64 ((k : Nat) : Int))) ∧ (s0.f 41 = q38) ∧ (s0.f 42 = (.int .i64 (((chF (List.drop x27.1 (List.take x27.2.1 s))).length : Nat) : Int))) ∧ (s0.f 3 = v_3) ∧ (s0.f 43 = (.int .i64 ((j : Nat) : Int))) ∧ (Row w0 w.heap.size 75 3 encPcN q19 (pcsR s)) ∧ (Row w0 w.heap.size 79 4 encChar q38 (chF (List.drop x27.1 (List.take x27.2.1 s)))) ∧ (Row w0 w.heap.size 4 1 encBool v_3 B2) ∧ (w0.heap[b33]? = some (.cells [(.int .i64 ((x27.1 : Nat) : Int)), (.int .i64 ((x27.2.1 : Nat) : Int)), (.int .i64 ((x27.2.2 : Nat) : Int))].toArray 75 (0, 0))) ∧ (Below w.heap.size w w0) ∧ (w.heap.size ≤ w0.heap.size) ∧ (j ≤ (chF (List.drop x27.1 (List.take x27.2.1 s))).length) ∧ (goodRow s B2)) _ ⟨0, B, v_3, rfl, hds, by kernel_rfl, by kernel_rfl, by kernel_rfl, by kernel_rfl, by kernel_rfl, by kernel_rfl, by kernel_rfl, by kernel_rfl, by kernel_rfl, by kernel_rfl, r_q19, r_q38, r_3, o_x5, hb, hs, (Nat.zero_le _), i2⟩ ?_
      rintro m42 s43 w44 ⟨j, B2, v_3, hm, hds, f_0, f_2, f_5, f_29, f_30, f_31, f_41, f_42, f_3, f_43, r_q19, r_q38, r_3, o_x5, hb, hs, j1, j2⟩
      refine W_set 0 _ f_0 (W_set 2 _ f_2 (W_set 5 _ f_5 (W_set 29 _ f_29 (W_set 30 _ f_30 (W_set 31 _ f_31 (W_set 41 _ f_41 (W_set 42 _ f_42 (W_set 3 _ f_3 (W_set 43 _ f_43 ?_)))))))))
      clear f_0 f_2 f_5 f_29 f_30 f_31 f_41 f_42 f_3 f_43
      have hB2 := j2.1
      refine W_seq (W_region (L_cmp .i64 ((j : Nat) : Int) (((chF (List.drop x27.1 (List.take x27.2.1 s))).length : Nat) : Int) (j < (chF (List.drop x27.1 (List.take x27.2.1 s))).length) rfl (cmpN_lt j ((chF (List.drop x27.1 (List.take x27.2.1 s))).length)) (by kernel_rfl) (by kernel_rfl) ?_ ?_))
      · intro h45
        replace h45 : j < (chF (List.drop x27.1 (List.take x27.2.1 s))).length := by omega
        refine L_nil (thenQ_normal (W_seq (W_true (by kernel_rfl) (W_skip (thenQ_normal (W_seq (W_block (W_seq (W_region ?_)))))))))
        have hz := get_some (chF (List.drop x27.1 (List.take x27.2.1 s))) j (by first | omega | (simp only [List.length_drop, List.length_take]; omega) | (simp only [List.length_replicate]; omega)); obtain ⟨x46, hx47⟩ := hz
        have hz := (r_q38.rd).at (k := 4) (fun _ => rfl) hx47
        obtain ⟨g48, off49, hl50, hc51⟩ := hz
        have hy_x46 := chF_le hx47
        simp only [List.length_drop, List.length_take] at hy_x46
        refine L_ixaddr (k := .i64) q38 j _ g48 off49 el76 hl50 (by first | omega | (simp only [List.length_drop, List.length_take]; omega) | (simp only [List.length_replicate]; omega)) (by kernel_rfl) (by kernel_rfl) (L_loadA g48 (off49 + j * 4) [(.int .i64 ((x46.1 : Nat) : Int)), (.int .i64 ((x46.2.1 : Nat) : Int)), (.int .i32 x46.2.2.1), (.bool x46.2.2.2)] (by kernel_rfl) (by kernel_rfl) (by kernel_rfl) hc51 (L_new (fun b => .pointer (some ⟨b, 0, none⟩)) (.cells [(.int .i64 0), (.int .i64 0), (.int .i32 0), (.bool false)].toArray 79 (0, 0)) (by kernel_rfl) (by kernel_rfl) ?_))
        intro b52 w53 hN54
        have ne_x5_x7 : b33 ≠ b52 := by have := (obj_lt o_x5); have := hN54.num; omega
        have ne_x7_x5 := ne_x5_x7.symm
        have g_x7 : w.heap.size ≤ b52 := by rw [hN54.num]; exact hs
        have nb_o_x7_r_q38 := r_q38.new_ne hN54
        replace hb := hb.trans (hN54.below.mono hs)
        replace hs := Nat.le_trans hs (hN54.below.size)
        replace o_x5 := obj_below o_x5 hN54.below
        replace r_q19 := r_q19.below hN54.below
        replace r_q38 := r_q38.below hN54.below
        replace r_3 := r_3.below hN54.below
        have o_x7 := hN54.here
        refine L_storeA b52 0 [(.int .i64 ((x46.1 : Nat) : Int)), (.int .i64 ((x46.2.1 : Nat) : Int)), (.int .i32 x46.2.2.1), (.bool x46.2.2.2)] [(.int .i64 0), (.int .i64 0), (.int .i32 0), (.bool false)] [(.int .i64 ((x46.1 : Nat) : Int)), (.int .i64 ((x46.2.1 : Nat) : Int)), (.int .i32 x46.2.2.1), (.bool x46.2.2.2)] 79 (by kernel_rfl) (by kernel_rfl) rfl (by kernel_rfl) o_x7 (by kernel_rfl) rfl ?_
        intro w55 hW56
        replace hb := hb.trans (hW56.below g_x7)
        replace hs := Nat.le_trans hs (Nat.le_of_eq hW56.size.symm)
        have n_o_x5 := obj_wrote o_x5 hW56 (obj_ne o_x5 o_x7 (by simp))
        have n_r_q19 := r_q19.wrote hW56 (r_q19.ne o_x7 (by simp))
        have n_r_q38 := r_q38.wrote hW56 nb_o_x7_r_q38
        have n_r_3 := r_3.wrote hW56 (r_3.ne o_x7 (by simp))
        replace o_x5 := n_o_x5; clear n_o_x5
        replace r_q19 := n_r_q19; clear n_r_q19
        replace r_q38 := n_r_q38; clear n_r_q38
        replace r_3 := n_r_3; clear n_r_3
        replace o_x7 := hW56.here
        refine L_nil (thenQ_normal (W_region (L_mv (L_run (.pointer (some ⟨b33, 0, none⟩)) (by kernel_rfl) (by kernel_rfl) (L_load b33 0 (.int .i64 ((x27.1 : Nat) : Int)) (by kernel_rfl) (by kernel_rfl) (cell_obj o_x5 rfl) (L_run (.pointer (some ⟨b52, 0, none⟩)) (by kernel_rfl) (by kernel_rfl) (L_load b52 0 (.int .i64 ((x46.1 : Nat) : Int)) (by kernel_rfl) (by kernel_rfl) (cell_obj o_x7 rfl) (L_addN x27.1 x46.1 (by omega) (by kernel_rfl) (by kernel_rfl) ?_))))))))
        have hz := get_some B2 (x27.1 + x46.1) (by first | omega | (simp only [List.length_drop, List.length_take]; omega) | (simp only [List.length_replicate]; omega)); obtain ⟨x57, hx58⟩ := hz
        have hz := (r_3.rd).at (k := 1) (fun _ => rfl) hx58
        obtain ⟨g59, off60, hl61, hc62⟩ := hz
        refine L_ixaddr (k := .i64) v_3 (x27.1 + x46.1) _ g59 off60 el73 hl61 (by first | omega | (simp only [List.length_drop, List.length_take]; omega) | (simp only [List.length_replicate]; omega)) (by kernel_rfl) (by kernel_rfl) (L_storeRow (x27.1 + x46.1) 0 g59 off60 x57 true (.bool true) r_3 (fun _ => rfl) hx58 hl61 (by kernel_rfl) (by kernel_rfl) rfl (by kernel_rfl) (by kernel_rfl) rfl ?_)
        intro w63 hr64 hg65
        replace hb := hb.grown hg65 hs (fun k hk => (World.ownsRow.lt r_3 k hk).1)
        replace hs := Nat.le_trans hs (hg65.size)
        have n_o_x5 := obj_grown o_x5 hg65 (r_3.ne o_x5 (by simp))
        have n_o_x7 := obj_grown o_x7 hg65 (r_3.ne o_x7 (by simp))
        have n_r_q19 := r_q19.grown hg65 (r_q19.apart r_3 (by kernel_rfl))
        have n_r_q38 := r_q38.grown hg65 (r_q38.apart r_3 (by kernel_rfl))
        replace o_x5 := n_o_x5; clear n_o_x5
        replace o_x7 := n_o_x7; clear n_o_x7
        replace r_q19 := n_r_q19; clear n_r_q19
        replace r_q38 := n_r_q38; clear n_r_q38
        replace r_3 := hr64
        have hx66 : (List.set B2 (x27.1 + x46.1) true)[(x27.1 + x46.1)]? = some true := set_here hx58
        refine L_nil (blkQ_normal (thenQ_normal (W_region (L_addN j 1 (by omega) (by kernel_rfl) (by kernel_rfl) (L_mv (L_nil ?_))))))
        refine thenQ_normal ⟨_, ?_, (j + 1), (List.set B2 (x27.1 + x46.1) true), v_3, rfl, hds, by kernel_rfl, by kernel_rfl, by kernel_rfl, by kernel_rfl, by kernel_rfl, by kernel_rfl, by kernel_rfl, by kernel_rfl, by kernel_rfl, by kernel_rfl, r_q19, r_q38, r_3, o_x5, hb, hs, ?_, ?_⟩
        · omega
        · omega
        · exact good_set j2 (good_charR (by assumption) (by assumption))
      · intro h67
        replace h67 : (chF (List.drop x27.1 (List.take x27.2.1 s))).length ≤ j := by omega
        refine L_nil (thenQ_normal (W_seq (W_false (by kernel_rfl) (W_exit (thenQ_exit (thenQ_exit (blkQ_exit (thenQ_normal (W_region (L_mv (L_run (.pointer (some ⟨b33, 1, none⟩)) (by kernel_rfl) (by kernel_rfl) (L_load b33 1 (.int .i64 ((x27.2.1 : Nat) : Int)) (by kernel_rfl) (by kernel_rfl) (cell_obj o_x5 rfl) ?_))))))))))))
        have hz := get_some B2 x27.2.1 (by first | omega | (simp only [List.length_drop, List.length_take]; omega) | (simp only [List.length_replicate]; omega)); obtain ⟨x68, hx69⟩ := hz
        have hz := (r_3.rd).at (k := 1) (fun _ => rfl) hx69
        obtain ⟨g70, off71, hl72, hc73⟩ := hz
        refine L_ixaddr (k := .i64) v_3 x27.2.1 _ g70 off71 el73 hl72 (by first | omega | (simp only [List.length_drop, List.length_take]; omega) | (simp only [List.length_replicate]; omega)) (by kernel_rfl) (by kernel_rfl) (L_storeRow x27.2.1 0 g70 off71 x68 true (.bool true) r_3 (fun _ => rfl) hx69 hl72 (by kernel_rfl) (by kernel_rfl) rfl (by kernel_rfl) (by kernel_rfl) rfl ?_)
        intro w74 hr75 hg76
        replace hb := hb.grown hg76 hs (fun k hk => (World.ownsRow.lt r_3 k hk).1)
        replace hs := Nat.le_trans hs (hg76.size)
        have n_o_x5 := obj_grown o_x5 hg76 (r_3.ne o_x5 (by simp))
        have n_r_q19 := r_q19.grown hg76 (r_q19.apart r_3 (by kernel_rfl))
        have n_r_q38 := r_q38.grown hg76 (r_q38.apart r_3 (by kernel_rfl))
        replace o_x5 := n_o_x5; clear n_o_x5
        replace r_q19 := n_r_q19; clear n_r_q19
        replace r_q38 := n_r_q38; clear n_r_q38
        replace r_3 := hr75
        have hx77 : (List.set B2 x27.2.1 true)[x27.2.1]? = some true := set_here hx69
        refine L_nil (blkQ_normal (thenQ_normal (W_region (L_addN k 1 (by omega) (by kernel_rfl) (by kernel_rfl) (L_mv (L_nil ?_))))))
        refine thenQ_normal ⟨_, ?_, (k + 1), (List.set B2 x27.2.1 true), v_3, rfl, hds, by kernel_rfl, by kernel_rfl, by kernel_rfl, by kernel_rfl, by kernel_rfl, by kernel_rfl, r_q19, r_3, hb, hs, ?_, ?_⟩
        · omega
        · omega
        · exact good_set j2 (good_toR (by assumption))
    · intro h78
      replace h78 : (pcsR s).length ≤ k := by omega
      refine L_nil (thenQ_normal (W_seq (W_false (by kernel_rfl) (W_exit (thenQ_exit (thenQ_exit (blkQ_exit (thenQ_normal (W_seq (W_region (L_as (L_as (L_nil (thenQ_normal (W_seq (W_seq (W_region (L_as (L_nil (thenQ_normal (W_block ?_)))))))))))))))))))))
      refine W_loop (fun m s0 w0 => ∃ (i : Nat) (a : Int) (b : Int), (m = s.length + 1 - i) ∧ (s0.ds = []) ∧ (s0.f 0 = (S s)) ∧ (s0.f 3 = v_3) ∧ (s0.f 8 = (.int .i64 a)) ∧ (s0.f 9 = (.int .i64 b)) ∧ (s0.f 10 = (.int .i64 ((i : Nat) : Int))) ∧ (Row w0 w.heap.size 75 3 encPcN q19 (pcsR s)) ∧ (Row w0 w.heap.size 4 1 encBool v_3 B) ∧ (Below w.heap.size w w0) ∧ (w.heap.size ≤ w0.heap.size) ∧ (i ≤ s.length + 1) ∧ (i ≤ s.length → a < (whereF s i).1 ∨ (a = (whereF s i).1 ∧ b ≤ (whereF s i).2))) _ ⟨0, 1, 1, rfl, hds, by kernel_rfl, by kernel_rfl, by kernel_rfl, by kernel_rfl, by kernel_rfl, r_q19, r_3, hb, hs, (Nat.zero_le _), fun _ => (by have := where_pos (s := s) (i := 0) (by omega); omega)⟩ ?_
      rintro m79 s80 w81 ⟨i, a, b, hm, hds, f_0, f_3, f_8, f_9, f_10, r_q19, r_3, hb, hs, n1, n2⟩
      refine W_set 0 _ f_0 (W_set 3 _ f_3 (W_set 8 _ f_8 (W_set 9 _ f_9 (W_set 10 _ f_10 ?_))))
      clear f_0 f_3 f_8 f_9 f_10
      have w1 : i ≤ s.length → 1 ≤ (whereF s ((i : Nat) : Int)).1 ∧ 1 ≤ (whereF s ((i : Nat) : Int)).2 := fun h => where_pos h
      have w2 : i ≤ s.length → (placeF s (whereF s ((i : Nat) : Int)).1 (whereF s ((i : Nat) : Int)).2).2 = 0 := fun h => back_ok h
      have w3 : i ≤ s.length → markN s ≤ i → (placeF s (whereF s ((i : Nat) : Int)).1 (whereF s ((i : Nat) : Int)).2).1 ≤ i := fun h k => back_le h k
      refine W_seq (W_seq (W_region (L_mv (L_mv (L_slen 9 s rfl Tryd.underlying9 (by kernel_rfl) (L_cmp .i64 ((i : Nat) : Int) (((s).length : Nat) : Int) (i ≤ (s).length) rfl (cmpN_le i ((s).length)) (by kernel_rfl) (by kernel_rfl) ?_ ?_))))))
      · intro h82
        replace h82 : i ≤ (s).length := by omega
        refine L_nil (thenQ_normal (W_true (by kernel_rfl) (W_skip (thenQ_normal (W_seq (W_block (W_seq (W_region (L_mv (L_mv (L_call 37 [(S s), (.int .i64 ((i : Nat) : Int))] (by kernel_rfl) (by kernel_rfl) (c_lines_Where s ((i : Nat) : Int) _ (by first | omega | (simp only [List.length_drop, List.length_take]; omega) | (simp only [List.length_replicate]; omega))) ?_)))))))))))
        rintro _ w83 ⟨rfl, hB84⟩
        replace hb := hb.trans (hB84.mono hs)
        replace hs := Nat.le_trans hs (hB84.size)
        replace r_q19 := r_q19.below hB84
        replace r_3 := r_3.below hB84
        have := pcsI_len s
        refine L_mv (L_run (.int .i64 ((whereF s ((i : Nat) : Int)).1)) (by kernel_rfl) (by kernel_rfl) (L_run (.int .i64 ((whereF s ((i : Nat) : Int)).2)) (by kernel_rfl) (by kernel_rfl) (L_as (L_as (L_nil (thenQ_normal (W_seq (W_seq (W_region (L_mv (L_mv (L_cmp .i64 ((whereF s ((i : Nat) : Int)).1) a ((whereF s ((i : Nat) : Int)).1 < a) rfl (cmp_lt ((whereF s ((i : Nat) : Int)).1) a) (by kernel_rfl) (by kernel_rfl) ?_ ?_))))))))))))
        · intro h86
          replace h86 : (whereF s ((i : Nat) : Int)).1 < a := by omega
          refine L_mv (L_skip (by kernel_rfl) (L_skip (by kernel_rfl) (L_skip (by kernel_rfl) (L_skip (by kernel_rfl) (L_skip (by kernel_rfl) (L_skip (by kernel_rfl) (L_skip (by kernel_rfl) (L_skip (by kernel_rfl) (L_pickT (by kernel_rfl) (L_mv (L_skip (by kernel_rfl) (L_skip (by kernel_rfl) (L_pickT (by kernel_rfl) (L_mv (L_skip (by kernel_rfl) (L_skip (by kernel_rfl) (L_pickT (by kernel_rfl) (L_nil (thenQ_normal (W_true (by kernel_rfl) (W_seq (W_region (L_as (L_nil (thenQ_normal (W_ret (thenQ_ret (blkQ_ret (thenQ_ret (thenQ_ret (blkQ_ret (thenQ_ret ?_))))))))))))))))))))))))))))))))
          refine end_ret [.tmp 2] [(.bool false)] rfl hds ⟨by kernel_rfl, trivial⟩ ?_
          have e0 : false = true := by first | rfl | (exfalso; omega) | (exfalso; have hz := good_true i2 (by assumption) (by assumption); omega)
          exact ⟨congrArg Value.bool e0, hb⟩
        · intro h87
          replace h87 : a ≤ (whereF s ((i : Nat) : Int)).1 := by omega
          refine L_mv (L_want (by kernel_rfl) (L_mv (L_want (by kernel_rfl) (L_mv (L_want (by kernel_rfl) (L_cmp .i64 ((whereF s ((i : Nat) : Int)).1) a ((whereF s ((i : Nat) : Int)).1 = a) rfl (cmp_eq ((whereF s ((i : Nat) : Int)).1) a) (by kernel_rfl) (by kernel_rfl) ?_ ?_))))))
          · intro h88
            replace h88 : (whereF s ((i : Nat) : Int)).1 = a := by omega
            refine L_want (by kernel_rfl) (L_mv (L_want (by kernel_rfl) (L_mv (L_want (by kernel_rfl) (L_mv (L_want (by kernel_rfl) (L_cmp .i64 ((whereF s ((i : Nat) : Int)).2) b ((whereF s ((i : Nat) : Int)).2 < b) rfl (cmp_lt ((whereF s ((i : Nat) : Int)).2) b) (by kernel_rfl) (by kernel_rfl) ?_ ?_)))))))
            · intro h89
              replace h89 : (whereF s ((i : Nat) : Int)).2 < b := by omega
              refine L_want (by kernel_rfl) (L_pickT (by kernel_rfl) (L_pickF (by kernel_rfl) (L_mv (L_skip (by kernel_rfl) (L_skip (by kernel_rfl) (L_pickT (by kernel_rfl) (L_mv (L_skip (by kernel_rfl) (L_skip (by kernel_rfl) (L_pickT (by kernel_rfl) (L_nil (thenQ_normal (W_true (by kernel_rfl) (W_seq (W_region (L_as (L_nil (thenQ_normal (W_ret (thenQ_ret (blkQ_ret (thenQ_ret (thenQ_ret (blkQ_ret (thenQ_ret ?_)))))))))))))))))))))))))
              refine end_ret [.tmp 2] [(.bool false)] rfl hds ⟨by kernel_rfl, trivial⟩ ?_
              have e0 : false = true := by first | rfl | (exfalso; omega) | (exfalso; have hz := good_true i2 (by assumption) (by assumption); omega)
              exact ⟨congrArg Value.bool e0, hb⟩
            · intro h90
              replace h90 : b ≤ (whereF s ((i : Nat) : Int)).2 := by omega
              refine L_want (by kernel_rfl) (L_pickT (by kernel_rfl) (L_pickF (by kernel_rfl) (L_mv (L_want (by kernel_rfl) (L_mv (L_want (by kernel_rfl) (L_cmp .i64 ((whereF s ((i : Nat) : Int)).1) 1 ((whereF s ((i : Nat) : Int)).1 < 1) rfl (cmp_lt ((whereF s ((i : Nat) : Int)).1) 1) (by kernel_rfl) (by kernel_rfl) ?_ ?_)))))))
              · intro h91
                replace h91 : (whereF s ((i : Nat) : Int)).1 < 1 := by omega
                refine L_pickF (by kernel_rfl) (L_mv (L_skip (by kernel_rfl) (L_skip (by kernel_rfl) (L_pickT (by kernel_rfl) (L_nil (thenQ_normal (W_true (by kernel_rfl) (W_seq (W_region (L_as (L_nil (thenQ_normal (W_ret (thenQ_ret (blkQ_ret (thenQ_ret (thenQ_ret (blkQ_ret (thenQ_ret ?_)))))))))))))))))))
                refine end_ret [.tmp 2] [(.bool false)] rfl hds ⟨by kernel_rfl, trivial⟩ ?_
                have e0 : false = true := by first | rfl | (exfalso; omega) | (exfalso; have hz := good_true i2 (by assumption) (by assumption); omega)
                exact ⟨congrArg Value.bool e0, hb⟩
              · intro h92
                replace h92 : 1 ≤ (whereF s ((i : Nat) : Int)).1 := by omega
                refine L_pickF (by kernel_rfl) (L_mv (L_want (by kernel_rfl) (L_mv (L_want (by kernel_rfl) (L_cmp .i64 ((whereF s ((i : Nat) : Int)).2) 1 ((whereF s ((i : Nat) : Int)).2 < 1) rfl (cmp_lt ((whereF s ((i : Nat) : Int)).2) 1) (by kernel_rfl) (by kernel_rfl) ?_ ?_)))))
                · intro h93
                  replace h93 : (whereF s ((i : Nat) : Int)).2 < 1 := by omega
                  refine L_pickF (by kernel_rfl) (L_nil (thenQ_normal (W_true (by kernel_rfl) (W_seq (W_region (L_as (L_nil (thenQ_normal (W_ret (thenQ_ret (blkQ_ret (thenQ_ret (thenQ_ret (blkQ_ret (thenQ_ret ?_)))))))))))))))
                  refine end_ret [.tmp 2] [(.bool false)] rfl hds ⟨by kernel_rfl, trivial⟩ ?_
                  have e0 : false = true := by first | rfl | (exfalso; omega) | (exfalso; have hz := good_true i2 (by assumption) (by assumption); omega)
                  exact ⟨congrArg Value.bool e0, hb⟩
                · intro h94
                  replace h94 : 1 ≤ (whereF s ((i : Nat) : Int)).2 := by omega
                  refine L_pickF (by kernel_rfl) (L_nil (thenQ_normal (W_false (by kernel_rfl) (W_skip (thenQ_normal (W_seq (W_region (L_mv (L_mv (L_as (L_as (L_nil (thenQ_normal (W_seq (W_region (L_mv (L_mv (L_mv (L_call 35 [(S s), (.int .i64 ((whereF s ((i : Nat) : Int)).1)), (.int .i64 ((whereF s ((i : Nat) : Int)).2))] (by kernel_rfl) (by kernel_rfl) (c_lines_Place s ((whereF s ((i : Nat) : Int)).1) ((whereF s ((i : Nat) : Int)).2) _ (by first | omega | (simp only [List.length_drop, List.length_take]; omega) | (simp only [List.length_replicate]; omega))) ?_)))))))))))))))))))
                  rintro _ w95 ⟨rfl, hB96⟩
                  replace hb := hb.trans (hB96.mono hs)
                  replace hs := Nat.le_trans hs (hB96.size)
                  replace r_q19 := r_q19.below hB96
                  replace r_3 := r_3.below hB96
                  refine L_mv (L_run (.int .i64 ((placeF s ((whereF s ((i : Nat) : Int)).1) ((whereF s ((i : Nat) : Int)).2)).1)) (by kernel_rfl) (by kernel_rfl) (L_run (.int .i64 ((placeF s ((whereF s ((i : Nat) : Int)).1) ((whereF s ((i : Nat) : Int)).2)).2)) (by kernel_rfl) (by kernel_rfl) (L_as (L_as (L_nil (thenQ_normal (W_seq (W_region (L_mv (L_cmp .i64 ((placeF s ((whereF s ((i : Nat) : Int)).1) ((whereF s ((i : Nat) : Int)).2)).2) 0 ((placeF s ((whereF s ((i : Nat) : Int)).1) ((whereF s ((i : Nat) : Int)).2)).2 ≠ 0) rfl (cmp_ne ((placeF s ((whereF s ((i : Nat) : Int)).1) ((whereF s ((i : Nat) : Int)).2)).2) 0) (by kernel_rfl) (by kernel_rfl) ?_ ?_))))))))))
                  · intro h98
                    replace h98 : (placeF s ((whereF s ((i : Nat) : Int)).1) ((whereF s ((i : Nat) : Int)).2)).2 ≠ 0 := by omega
                    refine L_mv (L_skip (by kernel_rfl) (L_skip (by kernel_rfl) (L_skip (by kernel_rfl) (L_skip (by kernel_rfl) (L_skip (by kernel_rfl) (L_skip (by kernel_rfl) (L_skip (by kernel_rfl) (L_skip (by kernel_rfl) (L_skip (by kernel_rfl) (L_pickT (by kernel_rfl) (L_mv (L_skip (by kernel_rfl) (L_skip (by kernel_rfl) (L_skip (by kernel_rfl) (L_skip (by kernel_rfl) (L_skip (by kernel_rfl) (L_skip (by kernel_rfl) (L_skip (by kernel_rfl) (L_skip (by kernel_rfl) (L_skip (by kernel_rfl) (L_pickT (by kernel_rfl) (L_nil (thenQ_normal (W_true (by kernel_rfl) (W_seq (W_region (L_as (L_nil (thenQ_normal (W_ret (blkQ_ret (thenQ_ret (thenQ_ret (blkQ_ret (thenQ_ret ?_)))))))))))))))))))))))))))))))))))
                    refine end_ret [.tmp 2] [(.bool false)] rfl hds ⟨by kernel_rfl, trivial⟩ ?_
                    have e0 : false = true := by first | rfl | (exfalso; omega) | (exfalso; have hz := good_true i2 (by assumption) (by assumption); omega)
                    exact ⟨congrArg Value.bool e0, hb⟩
                  · intro h99
                    replace h99 : (placeF s ((whereF s ((i : Nat) : Int)).1) ((whereF s ((i : Nat) : Int)).2)).2 = 0 := by omega
                    refine L_mv (L_want (by kernel_rfl) (L_mv (L_want (by kernel_rfl) (L_mv (L_want (by kernel_rfl) ?_)))))
                    have hz := get_some B i (by first | omega | (simp only [List.length_drop, List.length_take]; omega) | (simp only [List.length_replicate]; omega)); obtain ⟨x100, hx101⟩ := hz
                    have hz := (r_3.rd).at (k := 1) (fun _ => rfl) hx101
                    obtain ⟨g102, off103, hl104, hc105⟩ := hz
                    have hg_x100 := good_true i2 hx101
                    refine L_ixaddr (k := .i64) v_3 i _ g102 off103 el73 hl104 (by first | omega | (simp only [List.length_drop, List.length_take]; omega) | (simp only [List.length_replicate]; omega)) (by kernel_rfl) (by kernel_rfl) (L_want (by kernel_rfl) (L_load g102 (off103 + i * 1) (.bool x100) (by kernel_rfl) (by kernel_rfl) (hc105 0 _ rfl) (put_split x100 ?_ ?_)))
                    · intro h106
                      refine L_want (by kernel_rfl) (L_mv (L_want (by kernel_rfl) (L_mv (L_want (by kernel_rfl) (L_mv (L_want (by kernel_rfl) (L_cmp .i64 ((placeF s ((whereF s ((i : Nat) : Int)).1) ((whereF s ((i : Nat) : Int)).2)).1) ((i : Nat) : Int) ((placeF s ((whereF s ((i : Nat) : Int)).1) ((whereF s ((i : Nat) : Int)).2)).1 ≠ ((i : Nat) : Int)) rfl (cmp_ne ((placeF s ((whereF s ((i : Nat) : Int)).1) ((whereF s ((i : Nat) : Int)).2)).1) ((i : Nat) : Int)) (by kernel_rfl) (by kernel_rfl) ?_ ?_)))))))
                      · intro h107
                        replace h107 : (placeF s ((whereF s ((i : Nat) : Int)).1) ((whereF s ((i : Nat) : Int)).2)).1 ≠ ((i : Nat) : Int) := by omega
                        refine L_want (by kernel_rfl) (L_pickT (by kernel_rfl) (L_pickF (by kernel_rfl) (L_mv (L_skip (by kernel_rfl) (L_skip (by kernel_rfl) (L_skip (by kernel_rfl) (L_skip (by kernel_rfl) (L_skip (by kernel_rfl) (L_skip (by kernel_rfl) (L_skip (by kernel_rfl) (L_skip (by kernel_rfl) (L_skip (by kernel_rfl) (L_pickT (by kernel_rfl) (L_nil (thenQ_normal (W_true (by kernel_rfl) (W_seq (W_region (L_as (L_nil (thenQ_normal (W_ret (blkQ_ret (thenQ_ret (thenQ_ret (blkQ_ret (thenQ_ret ?_)))))))))))))))))))))))))))
                        refine end_ret [.tmp 2] [(.bool false)] rfl hds ⟨by kernel_rfl, trivial⟩ ?_
                        have e0 : false = true := by first | rfl | (exfalso; omega) | (exfalso; have hz := good_true i2 (by assumption) (by assumption); omega)
                        exact ⟨congrArg Value.bool e0, hb⟩
                      · intro h108
                        replace h108 : (placeF s ((whereF s ((i : Nat) : Int)).1) ((whereF s ((i : Nat) : Int)).2)).1 = ((i : Nat) : Int) := by omega
                        refine L_want (by kernel_rfl) (L_pickT (by kernel_rfl) (L_pickF (by kernel_rfl) (L_mv (L_want (by kernel_rfl) (L_mv (L_want (by kernel_rfl) (L_mv (L_want (by kernel_rfl) (L_call 34 [(S s)] (by kernel_rfl) (by kernel_rfl) (c_furrowref03_Marked s _ (by first | omega | (simp only [List.length_drop, List.length_take]; omega) | (simp only [List.length_replicate]; omega))) ?_)))))))))
                        rintro _ w109 ⟨rfl, hB110⟩
                        replace hb := hb.trans (hB110.mono hs)
                        replace hs := Nat.le_trans hs (hB110.size)
                        replace r_q19 := r_q19.below hB110
                        replace r_3 := r_3.below hB110
                        have := mark_len s
                        refine L_want (by kernel_rfl) (L_cmp .i64 ((i : Nat) : Int) ((markN s : Nat) : Int) (markN s ≤ i) rfl (cmpN_ge i (markN s)) (by kernel_rfl) (by kernel_rfl) ?_ ?_)
                        · intro h112
                          replace h112 : markN s ≤ i := by omega
                          refine L_want (by kernel_rfl) (L_mv (L_want (by kernel_rfl) (L_mv (L_want (by kernel_rfl) (L_mv (L_want (by kernel_rfl) (L_cmp .i64 ((placeF s ((whereF s ((i : Nat) : Int)).1) ((whereF s ((i : Nat) : Int)).2)).1) ((i : Nat) : Int) (((i : Nat) : Int) < (placeF s ((whereF s ((i : Nat) : Int)).1) ((whereF s ((i : Nat) : Int)).2)).1) rfl (cmp_gt ((placeF s ((whereF s ((i : Nat) : Int)).1) ((whereF s ((i : Nat) : Int)).2)).1) ((i : Nat) : Int)) (by kernel_rfl) (by kernel_rfl) ?_ ?_)))))))
                          · intro h113
                            replace h113 : ((i : Nat) : Int) < (placeF s ((whereF s ((i : Nat) : Int)).1) ((whereF s ((i : Nat) : Int)).2)).1 := by omega
                            refine L_want (by kernel_rfl) (L_pickT (by kernel_rfl) (L_pickF (by kernel_rfl) (L_nil (thenQ_normal (W_true (by kernel_rfl) (W_seq (W_region (L_as (L_nil (thenQ_normal (W_ret (blkQ_ret (thenQ_ret (thenQ_ret (blkQ_ret (thenQ_ret ?_))))))))))))))))
                            refine end_ret [.tmp 2] [(.bool false)] rfl hds ⟨by kernel_rfl, trivial⟩ ?_
                            have e0 : false = true := by first | rfl | (exfalso; omega) | (exfalso; have hz := good_true i2 (by assumption) (by assumption); omega)
                            exact ⟨congrArg Value.bool e0, hb⟩
                          · intro h114
                            replace h114 : (placeF s ((whereF s ((i : Nat) : Int)).1) ((whereF s ((i : Nat) : Int)).2)).1 ≤ ((i : Nat) : Int) := by omega
                            refine L_want (by kernel_rfl) (L_pickT (by kernel_rfl) (L_pickF (by kernel_rfl) (L_nil (thenQ_normal (W_false (by kernel_rfl) (W_skip (blkQ_normal (thenQ_normal (W_region (L_mv (L_addN i 1 (by omega) (by kernel_rfl) (by kernel_rfl) (L_as (L_nil ?_)))))))))))))
                            refine thenQ_normal ⟨_, ?_, (i + 1), ((whereF s ((i : Nat) : Int)).1), ((whereF s ((i : Nat) : Int)).2), rfl, hds, by kernel_rfl, by kernel_rfl, by kernel_rfl, by kernel_rfl, by kernel_rfl, r_q19, r_3, hb, hs, ?_, ?_⟩
                            · omega
                            · omega
                            · intro hle; have := rise (s := s) (i := i) (by omega); omega
                        · intro h115
                          replace h115 : i < markN s := by omega
                          refine L_want (by kernel_rfl) (L_mv (L_skip (by kernel_rfl) (L_skip (by kernel_rfl) (L_skip (by kernel_rfl) (L_want (by kernel_rfl) (L_pickF (by kernel_rfl) (L_pickF (by kernel_rfl) (L_nil (thenQ_normal (W_false (by kernel_rfl) (W_skip (blkQ_normal (thenQ_normal (W_region (L_mv (L_addN i 1 (by omega) (by kernel_rfl) (by kernel_rfl) (L_as (L_nil ?_))))))))))))))))))
                          refine thenQ_normal ⟨_, ?_, (i + 1), ((whereF s ((i : Nat) : Int)).1), ((whereF s ((i : Nat) : Int)).2), rfl, hds, by kernel_rfl, by kernel_rfl, by kernel_rfl, by kernel_rfl, by kernel_rfl, r_q19, r_3, hb, hs, ?_, ?_⟩
                          · omega
                          · omega
                          · intro hle; have := rise (s := s) (i := i) (by omega); omega
                    · intro h116
                      refine L_want (by kernel_rfl) (L_mv (L_skip (by kernel_rfl) (L_skip (by kernel_rfl) (L_skip (by kernel_rfl) (L_want (by kernel_rfl) (L_pickF (by kernel_rfl) (L_pickF (by kernel_rfl) (L_mv (L_want (by kernel_rfl) (L_mv (L_want (by kernel_rfl) (L_mv (L_want (by kernel_rfl) (L_call 34 [(S s)] (by kernel_rfl) (by kernel_rfl) (c_furrowref03_Marked s _ (by first | omega | (simp only [List.length_drop, List.length_take]; omega) | (simp only [List.length_replicate]; omega))) ?_))))))))))))))
                      rintro _ w117 ⟨rfl, hB118⟩
                      replace hb := hb.trans (hB118.mono hs)
                      replace hs := Nat.le_trans hs (hB118.size)
                      replace r_q19 := r_q19.below hB118
                      replace r_3 := r_3.below hB118
                      have := mark_len s
                      refine L_want (by kernel_rfl) (L_cmp .i64 ((i : Nat) : Int) ((markN s : Nat) : Int) (markN s ≤ i) rfl (cmpN_ge i (markN s)) (by kernel_rfl) (by kernel_rfl) ?_ ?_)
                      · intro h120
                        replace h120 : markN s ≤ i := by omega
                        refine L_want (by kernel_rfl) (L_mv (L_want (by kernel_rfl) (L_mv (L_want (by kernel_rfl) (L_mv (L_want (by kernel_rfl) (L_cmp .i64 ((placeF s ((whereF s ((i : Nat) : Int)).1) ((whereF s ((i : Nat) : Int)).2)).1) ((i : Nat) : Int) (((i : Nat) : Int) < (placeF s ((whereF s ((i : Nat) : Int)).1) ((whereF s ((i : Nat) : Int)).2)).1) rfl (cmp_gt ((placeF s ((whereF s ((i : Nat) : Int)).1) ((whereF s ((i : Nat) : Int)).2)).1) ((i : Nat) : Int)) (by kernel_rfl) (by kernel_rfl) ?_ ?_)))))))
                        · intro h121
                          replace h121 : ((i : Nat) : Int) < (placeF s ((whereF s ((i : Nat) : Int)).1) ((whereF s ((i : Nat) : Int)).2)).1 := by omega
                          refine L_want (by kernel_rfl) (L_pickT (by kernel_rfl) (L_pickF (by kernel_rfl) (L_nil (thenQ_normal (W_true (by kernel_rfl) (W_seq (W_region (L_as (L_nil (thenQ_normal (W_ret (blkQ_ret (thenQ_ret (thenQ_ret (blkQ_ret (thenQ_ret ?_))))))))))))))))
                          refine end_ret [.tmp 2] [(.bool false)] rfl hds ⟨by kernel_rfl, trivial⟩ ?_
                          have e0 : false = true := by first | rfl | (exfalso; omega) | (exfalso; have hz := good_true i2 (by assumption) (by assumption); omega)
                          exact ⟨congrArg Value.bool e0, hb⟩
                        · intro h122
                          replace h122 : (placeF s ((whereF s ((i : Nat) : Int)).1) ((whereF s ((i : Nat) : Int)).2)).1 ≤ ((i : Nat) : Int) := by omega
                          refine L_want (by kernel_rfl) (L_pickT (by kernel_rfl) (L_pickF (by kernel_rfl) (L_nil (thenQ_normal (W_false (by kernel_rfl) (W_skip (blkQ_normal (thenQ_normal (W_region (L_mv (L_addN i 1 (by omega) (by kernel_rfl) (by kernel_rfl) (L_as (L_nil ?_)))))))))))))
                          refine thenQ_normal ⟨_, ?_, (i + 1), ((whereF s ((i : Nat) : Int)).1), ((whereF s ((i : Nat) : Int)).2), rfl, hds, by kernel_rfl, by kernel_rfl, by kernel_rfl, by kernel_rfl, by kernel_rfl, r_q19, r_3, hb, hs, ?_, ?_⟩
                          · omega
                          · omega
                          · intro hle; have := rise (s := s) (i := i) (by omega); omega
                      · intro h123
                        replace h123 : i < markN s := by omega
                        refine L_want (by kernel_rfl) (L_mv (L_skip (by kernel_rfl) (L_skip (by kernel_rfl) (L_skip (by kernel_rfl) (L_want (by kernel_rfl) (L_pickF (by kernel_rfl) (L_pickF (by kernel_rfl) (L_nil (thenQ_normal (W_false (by kernel_rfl) (W_skip (blkQ_normal (thenQ_normal (W_region (L_mv (L_addN i 1 (by omega) (by kernel_rfl) (by kernel_rfl) (L_as (L_nil ?_))))))))))))))))))
                        refine thenQ_normal ⟨_, ?_, (i + 1), ((whereF s ((i : Nat) : Int)).1), ((whereF s ((i : Nat) : Int)).2), rfl, hds, by kernel_rfl, by kernel_rfl, by kernel_rfl, by kernel_rfl, by kernel_rfl, r_q19, r_3, hb, hs, ?_, ?_⟩
                        · omega
                        · omega
                        · intro hle; have := rise (s := s) (i := i) (by omega); omega
          · intro h124
            replace h124 : (whereF s ((i : Nat) : Int)).1 ≠ a := by omega
            refine L_want (by kernel_rfl) (L_mv (L_skip (by kernel_rfl) (L_skip (by kernel_rfl) (L_skip (by kernel_rfl) (L_want (by kernel_rfl) (L_pickF (by kernel_rfl) (L_pickF (by kernel_rfl) (L_mv (L_want (by kernel_rfl) (L_mv (L_want (by kernel_rfl) (L_cmp .i64 ((whereF s ((i : Nat) : Int)).1) 1 ((whereF s ((i : Nat) : Int)).1 < 1) rfl (cmp_lt ((whereF s ((i : Nat) : Int)).1) 1) (by kernel_rfl) (by kernel_rfl) ?_ ?_))))))))))))
            · intro h125
              replace h125 : (whereF s ((i : Nat) : Int)).1 < 1 := by omega
              refine L_pickF (by kernel_rfl) (L_mv (L_skip (by kernel_rfl) (L_skip (by kernel_rfl) (L_pickT (by kernel_rfl) (L_nil (thenQ_normal (W_true (by kernel_rfl) (W_seq (W_region (L_as (L_nil (thenQ_normal (W_ret (thenQ_ret (blkQ_ret (thenQ_ret (thenQ_ret (blkQ_ret (thenQ_ret ?_)))))))))))))))))))
              refine end_ret [.tmp 2] [(.bool false)] rfl hds ⟨by kernel_rfl, trivial⟩ ?_
              have e0 : false = true := by first | rfl | (exfalso; omega) | (exfalso; have hz := good_true i2 (by assumption) (by assumption); omega)
              exact ⟨congrArg Value.bool e0, hb⟩
            · intro h126
              replace h126 : 1 ≤ (whereF s ((i : Nat) : Int)).1 := by omega
              refine L_pickF (by kernel_rfl) (L_mv (L_want (by kernel_rfl) (L_mv (L_want (by kernel_rfl) (L_cmp .i64 ((whereF s ((i : Nat) : Int)).2) 1 ((whereF s ((i : Nat) : Int)).2 < 1) rfl (cmp_lt ((whereF s ((i : Nat) : Int)).2) 1) (by kernel_rfl) (by kernel_rfl) ?_ ?_)))))
              · intro h127
                replace h127 : (whereF s ((i : Nat) : Int)).2 < 1 := by omega
                refine L_pickF (by kernel_rfl) (L_nil (thenQ_normal (W_true (by kernel_rfl) (W_seq (W_region (L_as (L_nil (thenQ_normal (W_ret (thenQ_ret (blkQ_ret (thenQ_ret (thenQ_ret (blkQ_ret (thenQ_ret ?_)))))))))))))))
                refine end_ret [.tmp 2] [(.bool false)] rfl hds ⟨by kernel_rfl, trivial⟩ ?_
                have e0 : false = true := by first | rfl | (exfalso; omega) | (exfalso; have hz := good_true i2 (by assumption) (by assumption); omega)
                exact ⟨congrArg Value.bool e0, hb⟩
              · intro h128
                replace h128 : 1 ≤ (whereF s ((i : Nat) : Int)).2 := by omega
                refine L_pickF (by kernel_rfl) (L_nil (thenQ_normal (W_false (by kernel_rfl) (W_skip (thenQ_normal (W_seq (W_region (L_mv (L_mv (L_as (L_as (L_nil (thenQ_normal (W_seq (W_region (L_mv (L_mv (L_mv (L_call 35 [(S s), (.int .i64 ((whereF s ((i : Nat) : Int)).1)), (.int .i64 ((whereF s ((i : Nat) : Int)).2))] (by kernel_rfl) (by kernel_rfl) (c_lines_Place s ((whereF s ((i : Nat) : Int)).1) ((whereF s ((i : Nat) : Int)).2) _ (by first | omega | (simp only [List.length_drop, List.length_take]; omega) | (simp only [List.length_replicate]; omega))) ?_)))))))))))))))))))
                rintro _ w129 ⟨rfl, hB130⟩
                replace hb := hb.trans (hB130.mono hs)
                replace hs := Nat.le_trans hs (hB130.size)
                replace r_q19 := r_q19.below hB130
                replace r_3 := r_3.below hB130
                refine L_mv (L_run (.int .i64 ((placeF s ((whereF s ((i : Nat) : Int)).1) ((whereF s ((i : Nat) : Int)).2)).1)) (by kernel_rfl) (by kernel_rfl) (L_run (.int .i64 ((placeF s ((whereF s ((i : Nat) : Int)).1) ((whereF s ((i : Nat) : Int)).2)).2)) (by kernel_rfl) (by kernel_rfl) (L_as (L_as (L_nil (thenQ_normal (W_seq (W_region (L_mv (L_cmp .i64 ((placeF s ((whereF s ((i : Nat) : Int)).1) ((whereF s ((i : Nat) : Int)).2)).2) 0 ((placeF s ((whereF s ((i : Nat) : Int)).1) ((whereF s ((i : Nat) : Int)).2)).2 ≠ 0) rfl (cmp_ne ((placeF s ((whereF s ((i : Nat) : Int)).1) ((whereF s ((i : Nat) : Int)).2)).2) 0) (by kernel_rfl) (by kernel_rfl) ?_ ?_))))))))))
                · intro h132
                  replace h132 : (placeF s ((whereF s ((i : Nat) : Int)).1) ((whereF s ((i : Nat) : Int)).2)).2 ≠ 0 := by omega
                  refine L_mv (L_skip (by kernel_rfl) (L_skip (by kernel_rfl) (L_skip (by kernel_rfl) (L_skip (by kernel_rfl) (L_skip (by kernel_rfl) (L_skip (by kernel_rfl) (L_skip (by kernel_rfl) (L_skip (by kernel_rfl) (L_skip (by kernel_rfl) (L_pickT (by kernel_rfl) (L_mv (L_skip (by kernel_rfl) (L_skip (by kernel_rfl) (L_skip (by kernel_rfl) (L_skip (by kernel_rfl) (L_skip (by kernel_rfl) (L_skip (by kernel_rfl) (L_skip (by kernel_rfl) (L_skip (by kernel_rfl) (L_skip (by kernel_rfl) (L_pickT (by kernel_rfl) (L_nil (thenQ_normal (W_true (by kernel_rfl) (W_seq (W_region (L_as (L_nil (thenQ_normal (W_ret (blkQ_ret (thenQ_ret (thenQ_ret (blkQ_ret (thenQ_ret ?_)))))))))))))))))))))))))))))))))))
                  refine end_ret [.tmp 2] [(.bool false)] rfl hds ⟨by kernel_rfl, trivial⟩ ?_
                  have e0 : false = true := by first | rfl | (exfalso; omega) | (exfalso; have hz := good_true i2 (by assumption) (by assumption); omega)
                  exact ⟨congrArg Value.bool e0, hb⟩
                · intro h133
                  replace h133 : (placeF s ((whereF s ((i : Nat) : Int)).1) ((whereF s ((i : Nat) : Int)).2)).2 = 0 := by omega
                  refine L_mv (L_want (by kernel_rfl) (L_mv (L_want (by kernel_rfl) (L_mv (L_want (by kernel_rfl) ?_)))))
                  have hz := get_some B i (by first | omega | (simp only [List.length_drop, List.length_take]; omega) | (simp only [List.length_replicate]; omega)); obtain ⟨x134, hx135⟩ := hz
                  have hz := (r_3.rd).at (k := 1) (fun _ => rfl) hx135
                  obtain ⟨g136, off137, hl138, hc139⟩ := hz
                  have hg_x134 := good_true i2 hx135
                  refine L_ixaddr (k := .i64) v_3 i _ g136 off137 el73 hl138 (by first | omega | (simp only [List.length_drop, List.length_take]; omega) | (simp only [List.length_replicate]; omega)) (by kernel_rfl) (by kernel_rfl) (L_want (by kernel_rfl) (L_load g136 (off137 + i * 1) (.bool x134) (by kernel_rfl) (by kernel_rfl) (hc139 0 _ rfl) (put_split x134 ?_ ?_)))
                  · intro h140
                    refine L_want (by kernel_rfl) (L_mv (L_want (by kernel_rfl) (L_mv (L_want (by kernel_rfl) (L_mv (L_want (by kernel_rfl) (L_cmp .i64 ((placeF s ((whereF s ((i : Nat) : Int)).1) ((whereF s ((i : Nat) : Int)).2)).1) ((i : Nat) : Int) ((placeF s ((whereF s ((i : Nat) : Int)).1) ((whereF s ((i : Nat) : Int)).2)).1 ≠ ((i : Nat) : Int)) rfl (cmp_ne ((placeF s ((whereF s ((i : Nat) : Int)).1) ((whereF s ((i : Nat) : Int)).2)).1) ((i : Nat) : Int)) (by kernel_rfl) (by kernel_rfl) ?_ ?_)))))))
                    · intro h141
                      replace h141 : (placeF s ((whereF s ((i : Nat) : Int)).1) ((whereF s ((i : Nat) : Int)).2)).1 ≠ ((i : Nat) : Int) := by omega
                      refine L_want (by kernel_rfl) (L_pickT (by kernel_rfl) (L_pickF (by kernel_rfl) (L_mv (L_skip (by kernel_rfl) (L_skip (by kernel_rfl) (L_skip (by kernel_rfl) (L_skip (by kernel_rfl) (L_skip (by kernel_rfl) (L_skip (by kernel_rfl) (L_skip (by kernel_rfl) (L_skip (by kernel_rfl) (L_skip (by kernel_rfl) (L_pickT (by kernel_rfl) (L_nil (thenQ_normal (W_true (by kernel_rfl) (W_seq (W_region (L_as (L_nil (thenQ_normal (W_ret (blkQ_ret (thenQ_ret (thenQ_ret (blkQ_ret (thenQ_ret ?_)))))))))))))))))))))))))))
                      refine end_ret [.tmp 2] [(.bool false)] rfl hds ⟨by kernel_rfl, trivial⟩ ?_
                      have e0 : false = true := by first | rfl | (exfalso; omega) | (exfalso; have hz := good_true i2 (by assumption) (by assumption); omega)
                      exact ⟨congrArg Value.bool e0, hb⟩
                    · intro h142
                      replace h142 : (placeF s ((whereF s ((i : Nat) : Int)).1) ((whereF s ((i : Nat) : Int)).2)).1 = ((i : Nat) : Int) := by omega
                      refine L_want (by kernel_rfl) (L_pickT (by kernel_rfl) (L_pickF (by kernel_rfl) (L_mv (L_want (by kernel_rfl) (L_mv (L_want (by kernel_rfl) (L_mv (L_want (by kernel_rfl) (L_call 34 [(S s)] (by kernel_rfl) (by kernel_rfl) (c_furrowref03_Marked s _ (by first | omega | (simp only [List.length_drop, List.length_take]; omega) | (simp only [List.length_replicate]; omega))) ?_)))))))))
                      rintro _ w143 ⟨rfl, hB144⟩
                      replace hb := hb.trans (hB144.mono hs)
                      replace hs := Nat.le_trans hs (hB144.size)
                      replace r_q19 := r_q19.below hB144
                      replace r_3 := r_3.below hB144
                      have := mark_len s
                      refine L_want (by kernel_rfl) (L_cmp .i64 ((i : Nat) : Int) ((markN s : Nat) : Int) (markN s ≤ i) rfl (cmpN_ge i (markN s)) (by kernel_rfl) (by kernel_rfl) ?_ ?_)
                      · intro h146
                        replace h146 : markN s ≤ i := by omega
                        refine L_want (by kernel_rfl) (L_mv (L_want (by kernel_rfl) (L_mv (L_want (by kernel_rfl) (L_mv (L_want (by kernel_rfl) (L_cmp .i64 ((placeF s ((whereF s ((i : Nat) : Int)).1) ((whereF s ((i : Nat) : Int)).2)).1) ((i : Nat) : Int) (((i : Nat) : Int) < (placeF s ((whereF s ((i : Nat) : Int)).1) ((whereF s ((i : Nat) : Int)).2)).1) rfl (cmp_gt ((placeF s ((whereF s ((i : Nat) : Int)).1) ((whereF s ((i : Nat) : Int)).2)).1) ((i : Nat) : Int)) (by kernel_rfl) (by kernel_rfl) ?_ ?_)))))))
                        · intro h147
                          replace h147 : ((i : Nat) : Int) < (placeF s ((whereF s ((i : Nat) : Int)).1) ((whereF s ((i : Nat) : Int)).2)).1 := by omega
                          refine L_want (by kernel_rfl) (L_pickT (by kernel_rfl) (L_pickF (by kernel_rfl) (L_nil (thenQ_normal (W_true (by kernel_rfl) (W_seq (W_region (L_as (L_nil (thenQ_normal (W_ret (blkQ_ret (thenQ_ret (thenQ_ret (blkQ_ret (thenQ_ret ?_))))))))))))))))
                          refine end_ret [.tmp 2] [(.bool false)] rfl hds ⟨by kernel_rfl, trivial⟩ ?_
                          have e0 : false = true := by first | rfl | (exfalso; omega) | (exfalso; have hz := good_true i2 (by assumption) (by assumption); omega)
                          exact ⟨congrArg Value.bool e0, hb⟩
                        · intro h148
                          replace h148 : (placeF s ((whereF s ((i : Nat) : Int)).1) ((whereF s ((i : Nat) : Int)).2)).1 ≤ ((i : Nat) : Int) := by omega
                          refine L_want (by kernel_rfl) (L_pickT (by kernel_rfl) (L_pickF (by kernel_rfl) (L_nil (thenQ_normal (W_false (by kernel_rfl) (W_skip (blkQ_normal (thenQ_normal (W_region (L_mv (L_addN i 1 (by omega) (by kernel_rfl) (by kernel_rfl) (L_as (L_nil ?_)))))))))))))
                          refine thenQ_normal ⟨_, ?_, (i + 1), ((whereF s ((i : Nat) : Int)).1), ((whereF s ((i : Nat) : Int)).2), rfl, hds, by kernel_rfl, by kernel_rfl, by kernel_rfl, by kernel_rfl, by kernel_rfl, r_q19, r_3, hb, hs, ?_, ?_⟩
                          · omega
                          · omega
                          · intro hle; have := rise (s := s) (i := i) (by omega); omega
                      · intro h149
                        replace h149 : i < markN s := by omega
                        refine L_want (by kernel_rfl) (L_mv (L_skip (by kernel_rfl) (L_skip (by kernel_rfl) (L_skip (by kernel_rfl) (L_want (by kernel_rfl) (L_pickF (by kernel_rfl) (L_pickF (by kernel_rfl) (L_nil (thenQ_normal (W_false (by kernel_rfl) (W_skip (blkQ_normal (thenQ_normal (W_region (L_mv (L_addN i 1 (by omega) (by kernel_rfl) (by kernel_rfl) (L_as (L_nil ?_))))))))))))))))))
                        refine thenQ_normal ⟨_, ?_, (i + 1), ((whereF s ((i : Nat) : Int)).1), ((whereF s ((i : Nat) : Int)).2), rfl, hds, by kernel_rfl, by kernel_rfl, by kernel_rfl, by kernel_rfl, by kernel_rfl, r_q19, r_3, hb, hs, ?_, ?_⟩
                        · omega
                        · omega
                        · intro hle; have := rise (s := s) (i := i) (by omega); omega
                  · intro h150
                    refine L_want (by kernel_rfl) (L_mv (L_skip (by kernel_rfl) (L_skip (by kernel_rfl) (L_skip (by kernel_rfl) (L_want (by kernel_rfl) (L_pickF (by kernel_rfl) (L_pickF (by kernel_rfl) (L_mv (L_want (by kernel_rfl) (L_mv (L_want (by kernel_rfl) (L_mv (L_want (by kernel_rfl) (L_call 34 [(S s)] (by kernel_rfl) (by kernel_rfl) (c_furrowref03_Marked s _ (by first | omega | (simp only [List.length_drop, List.length_take]; omega) | (simp only [List.length_replicate]; omega))) ?_))))))))))))))
                    rintro _ w151 ⟨rfl, hB152⟩
                    replace hb := hb.trans (hB152.mono hs)
                    replace hs := Nat.le_trans hs (hB152.size)
                    replace r_q19 := r_q19.below hB152
                    replace r_3 := r_3.below hB152
                    have := mark_len s
                    refine L_want (by kernel_rfl) (L_cmp .i64 ((i : Nat) : Int) ((markN s : Nat) : Int) (markN s ≤ i) rfl (cmpN_ge i (markN s)) (by kernel_rfl) (by kernel_rfl) ?_ ?_)
                    · intro h154
                      replace h154 : markN s ≤ i := by omega
                      refine L_want (by kernel_rfl) (L_mv (L_want (by kernel_rfl) (L_mv (L_want (by kernel_rfl) (L_mv (L_want (by kernel_rfl) (L_cmp .i64 ((placeF s ((whereF s ((i : Nat) : Int)).1) ((whereF s ((i : Nat) : Int)).2)).1) ((i : Nat) : Int) (((i : Nat) : Int) < (placeF s ((whereF s ((i : Nat) : Int)).1) ((whereF s ((i : Nat) : Int)).2)).1) rfl (cmp_gt ((placeF s ((whereF s ((i : Nat) : Int)).1) ((whereF s ((i : Nat) : Int)).2)).1) ((i : Nat) : Int)) (by kernel_rfl) (by kernel_rfl) ?_ ?_)))))))
                      · intro h155
                        replace h155 : ((i : Nat) : Int) < (placeF s ((whereF s ((i : Nat) : Int)).1) ((whereF s ((i : Nat) : Int)).2)).1 := by omega
                        refine L_want (by kernel_rfl) (L_pickT (by kernel_rfl) (L_pickF (by kernel_rfl) (L_nil (thenQ_normal (W_true (by kernel_rfl) (W_seq (W_region (L_as (L_nil (thenQ_normal (W_ret (blkQ_ret (thenQ_ret (thenQ_ret (blkQ_ret (thenQ_ret ?_))))))))))))))))
                        refine end_ret [.tmp 2] [(.bool false)] rfl hds ⟨by kernel_rfl, trivial⟩ ?_
                        have e0 : false = true := by first | rfl | (exfalso; omega) | (exfalso; have hz := good_true i2 (by assumption) (by assumption); omega)
                        exact ⟨congrArg Value.bool e0, hb⟩
                      · intro h156
                        replace h156 : (placeF s ((whereF s ((i : Nat) : Int)).1) ((whereF s ((i : Nat) : Int)).2)).1 ≤ ((i : Nat) : Int) := by omega
                        refine L_want (by kernel_rfl) (L_pickT (by kernel_rfl) (L_pickF (by kernel_rfl) (L_nil (thenQ_normal (W_false (by kernel_rfl) (W_skip (blkQ_normal (thenQ_normal (W_region (L_mv (L_addN i 1 (by omega) (by kernel_rfl) (by kernel_rfl) (L_as (L_nil ?_)))))))))))))
                        refine thenQ_normal ⟨_, ?_, (i + 1), ((whereF s ((i : Nat) : Int)).1), ((whereF s ((i : Nat) : Int)).2), rfl, hds, by kernel_rfl, by kernel_rfl, by kernel_rfl, by kernel_rfl, by kernel_rfl, r_q19, r_3, hb, hs, ?_, ?_⟩
                        · omega
                        · omega
                        · intro hle; have := rise (s := s) (i := i) (by omega); omega
                    · intro h157
                      replace h157 : i < markN s := by omega
                      refine L_want (by kernel_rfl) (L_mv (L_skip (by kernel_rfl) (L_skip (by kernel_rfl) (L_skip (by kernel_rfl) (L_want (by kernel_rfl) (L_pickF (by kernel_rfl) (L_pickF (by kernel_rfl) (L_nil (thenQ_normal (W_false (by kernel_rfl) (W_skip (blkQ_normal (thenQ_normal (W_region (L_mv (L_addN i 1 (by omega) (by kernel_rfl) (by kernel_rfl) (L_as (L_nil ?_))))))))))))))))))
                      refine thenQ_normal ⟨_, ?_, (i + 1), ((whereF s ((i : Nat) : Int)).1), ((whereF s ((i : Nat) : Int)).2), rfl, hds, by kernel_rfl, by kernel_rfl, by kernel_rfl, by kernel_rfl, by kernel_rfl, r_q19, r_3, hb, hs, ?_, ?_⟩
                      · omega
                      · omega
                      · intro hle; have := rise (s := s) (i := i) (by omega); omega
      · intro h158
        replace h158 : (s).length < i := by omega
        refine L_nil (thenQ_normal (W_false (by kernel_rfl) (W_exit (thenQ_exit (thenQ_exit (blkQ_exit (thenQ_normal (W_seq (W_region (L_as (L_nil (thenQ_normal (W_ret ?_)))))))))))))
        refine end_ret [.tmp 2] [(.bool true)] rfl hds ⟨by kernel_rfl, trivial⟩ ?_
        have e0 : true = true := by first | rfl | (exfalso; omega) | (exfalso; have hz := good_true i2 (by assumption) (by assumption); omega)
        exact ⟨congrArg Value.bool e0, hb⟩

end Go.Proofs.YtapndpldphflcaaDoor
