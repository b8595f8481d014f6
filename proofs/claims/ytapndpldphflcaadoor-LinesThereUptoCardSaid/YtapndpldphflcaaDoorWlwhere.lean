/- Walks, written by my program walk.py out of the specification lwhere.py: each theorem says what one function returns and that it leaves memory as it was. -/
import Derived.Test.YtapndpldphflcaaDoorPLplc
import Derived.Test.YtapndpldphflcaaDoorWllines
import Derived.Test.YtapndpldphflcaaDoorWlscan
import Derived.Test.YtapndpldphflcaaDoorWlread
import Derived.Test.YtapndpldphflcaaDoorWlawake
import Derived.Test.YtapndpldphflcaaDoorWlref
import Derived.Test.YtapndpldphflcaaDoorWlplace
import Derived.Test.YtapndpldphflcaaDoorFKu
import Derived.Test.YtapndpldphflcaaDoorProg
import Derived.Tactics2
namespace Go.Proofs.YtapndpldphflcaaDoor
open Go Go.RowKit Go.FK
set_option linter.unusedVariables false
set_option linter.unusedSimpArgs false


set_option maxHeartbeats 4000000 in
set_option maxRecDepth 100000 in
theorem c_furrowref03_Where (s : List UInt8) (b : Int) (w : World) (hs : s.length ≤ 1073741824) :
    Calls Tryd.prog 38 #[(S s), (.int .i64 b)] w (Ret fun v w' => v = (.tuple #[(.int .i64 ((whereF s b).1)), (.int .i64 ((whereF s b).2))]) ∧ Below w.heap.size w w') := by
  refine enter (args := [(S s), (.int .i64 b)]) Tryd.func38 rfl (by kernel_rfl : _ = 73) (by kernel_rfl) ?_
  have hb := Below.refl w.heap.size w
  have hs : w.heap.size ≤ w.heap.size := Nat.le_refl _
  refine W_seq (W_region (L_as (L_as (L_nil (thenQ_normal (W_seq (W_seq (W_region (L_mv (L_cmp .i64 b 0 (b < 0) rfl (cmp_lt b 0) (by kernel_rfl) (by kernel_rfl) ?_ ?_))))))))))
  · intro h1
    replace h1 : b < 0 := by omega
    refine L_mv (L_skip (by kernel_rfl) (L_skip (by kernel_rfl) (L_skip (by kernel_rfl) (L_skip (by kernel_rfl) (L_pickT (by kernel_rfl) (L_nil (thenQ_normal (W_true (by kernel_rfl) (W_seq (W_region (L_as (L_as (L_nil (thenQ_normal (W_ret (thenQ_ret ?_))))))))))))))))
    refine end_ret [.tmp 4, .tmp 5] [(.int .i64 0), (.int .i64 0)] rfl rfl ⟨by kernel_rfl, by kernel_rfl, trivial⟩ ?_
    have hE : ((0 : Int) = (whereF s b).1) ∧ ((0 : Int) = (whereF s b).2) := ⟨(by first | (rw [where_arg (by omega)]; done) | (rw [whereR_is (by omega) (by omega) i1 (by omega) i3 (by assumption) (by omega) j3]; done)), (by first | (rw [where_arg (by omega)]; done) | (rw [whereR_is (by omega) (by omega) i1 (by omega) i3 (by assumption) (by omega) j3]; done))⟩
    exact ⟨tup2 (congrArg (Value.int .i64) hE.1) (congrArg (Value.int .i64) hE.2), hb⟩
  · intro h2
    replace h2 : 0 ≤ b := by omega
    refine L_mv (L_want (by kernel_rfl) (L_mv (L_want (by kernel_rfl) (L_mv (L_want (by kernel_rfl) (L_slen 9 s rfl Tryd.underlying9 (by kernel_rfl) (L_want (by kernel_rfl) (L_cmp .i64 b (((s).length : Nat) : Int) ((((s).length : Nat) : Int) < b) rfl (cmp_gt b (((s).length : Nat) : Int)) (by kernel_rfl) (by kernel_rfl) ?_ ?_))))))))
    · intro h3
      replace h3 : (((s).length : Nat) : Int) < b := by omega
      refine L_pickF (by kernel_rfl) (L_nil (thenQ_normal (W_true (by kernel_rfl) (W_seq (W_region (L_as (L_as (L_nil (thenQ_normal (W_ret (thenQ_ret ?_)))))))))))
      refine end_ret [.tmp 4, .tmp 5] [(.int .i64 0), (.int .i64 0)] rfl rfl ⟨by kernel_rfl, by kernel_rfl, trivial⟩ ?_
      have hE : ((0 : Int) = (whereF s b).1) ∧ ((0 : Int) = (whereF s b).2) := ⟨(by first | (rw [where_arg (by omega)]; done) | (rw [whereR_is (by omega) (by omega) i1 (by omega) i3 (by assumption) (by omega) j3]; done)), (by first | (rw [where_arg (by omega)]; done) | (rw [whereR_is (by omega) (by omega) i1 (by omega) i3 (by assumption) (by omega) j3]; done))⟩
      exact ⟨tup2 (congrArg (Value.int .i64) hE.1) (congrArg (Value.int .i64) hE.2), hb⟩
    · intro h4
      replace h4 : b ≤ (((s).length : Nat) : Int) := by omega
      refine L_pickF (by kernel_rfl) (L_nil (thenQ_normal (W_false (by kernel_rfl) (W_skip (thenQ_normal (W_seq (W_region (L_mv (L_call 59 [(S s)] (by kernel_rfl) (by kernel_rfl) (c_furrowref03_ends s _ (by first | omega | (simp only [List.length_drop, List.length_take]; omega))) ?_)))))))))
      rintro q5 w6 ⟨_, rfl, r_q5, hB7⟩
      replace r_q5 := r_q5.base hs
      replace hb := hb.trans (hB7.mono hs)
      replace hs := Nat.le_trans hs (hB7.size)
      have := ends_len s
      refine L_as (L_nil (thenQ_normal (W_seq (W_region (L_as (L_nil (thenQ_normal (W_seq (W_seq (W_region (L_as (L_nil (thenQ_normal (W_block ?_))))))))))))))
      refine W_loop (fun m s0 w0 => ∃ (i : Nat) (no : Nat), (m = (endsF s).length - i) ∧ (s0.ds = []) ∧ (s0.f 0 = (S s)) ∧ (s0.f 1 = (.int .i64 b)) ∧ (s0.f 4 = (.int .i64 0)) ∧ (s0.f 5 = (.int .i64 0)) ∧ (s0.f 6 = q5) ∧ (s0.f 7 = (.int .i64 ((no : Nat) : Int))) ∧ (s0.f 8 = (.int .i64 ((i : Nat) : Int))) ∧ (Row w0 w.heap.size 75 3 encPcN q5 (endsF s)) ∧ (Below w.heap.size w w0) ∧ (w.heap.size ≤ w0.heap.size) ∧ (i ≤ (endsF s).length) ∧ (no ≤ i - 1) ∧ (lixF s b i = no)) _ ⟨0, 0, rfl, by kernel_rfl, by kernel_rfl, by kernel_rfl, by kernel_rfl, by kernel_rfl, by kernel_rfl, by kernel_rfl, by kernel_rfl, r_q5, hb, hs, by omega, by omega, rfl⟩ ?_
      rintro m9 s10 w11 ⟨i, no, hm, hds, f_0, f_1, f_4, f_5, f_6, f_7, f_8, r_q5, hb, hs, i1, i2, i3⟩
      refine W_set 0 _ f_0 (W_set 1 _ f_1 (W_set 4 _ f_4 (W_set 5 _ f_5 (W_set 6 _ f_6 (W_set 7 _ f_7 (W_set 8 _ f_8 ?_))))))
      clear f_0 f_1 f_4 f_5 f_6 f_7 f_8
      refine W_seq (W_seq (W_region (L_mv (L_mv (L_len 23 75 (endsF s).length q5 rfl Tryd.underlying23 (r_q5.rd).len (by kernel_rfl) (L_cmp .i64 ((i : Nat) : Int) (((endsF s).length : Nat) : Int) (i < (endsF s).length) rfl (cmpN_lt i ((endsF s).length)) (by kernel_rfl) (by kernel_rfl) ?_ ?_))))))
      · intro h12
        replace h12 : i < (endsF s).length := by omega
        refine L_nil (thenQ_normal (W_true (by kernel_rfl) (W_skip (thenQ_normal (W_seq (W_block (W_seq (W_region (L_mv (L_cmp .i64 ((i : Nat) : Int) ((0 : Nat) : Int) (i = 0) rfl (cmpN_eq i 0) (by kernel_rfl) (by kernel_rfl) ?_ ?_))))))))))
        · intro h13
          replace h13 : i = 0 := by omega
          refine L_mv (L_skip (by kernel_rfl) (L_skip (by kernel_rfl) (L_skip (by kernel_rfl) (L_skip (by kernel_rfl) (L_skip (by kernel_rfl) (L_skip (by kernel_rfl) (L_skip (by kernel_rfl) (L_pickT (by kernel_rfl) (L_nil (thenQ_normal (W_true (by kernel_rfl) (W_region (L_mv (L_as (L_nil (blkQ_normal (thenQ_normal (W_region (L_mv (L_addN i 1 (by omega) (by kernel_rfl) (by kernel_rfl) (L_as (L_nil ?_))))))))))))))))))))))
          refine thenQ_normal ⟨_, ?_, (i + 1), i, rfl, hds, by kernel_rfl, by kernel_rfl, by kernel_rfl, by kernel_rfl, by kernel_rfl, by kernel_rfl, by kernel_rfl, r_q5, hb, hs, ?_, ?_, ?_⟩
          · omega
          · omega
          · omega
          · first | exact lix_yes (.inl (by omega)) | exact lix_yes (.inr (by omega)) | exact (lix_no (by omega) (by omega)).trans i3
        · intro h14
          replace h14 : i ≠ 0 := by omega
          refine L_mv (L_want (by kernel_rfl) (L_mv (L_want (by kernel_rfl) (L_mv (L_want (by kernel_rfl) ?_)))))
          have hz := get_some (endsF s) i (by first | omega | (simp only [List.length_drop, List.length_take]; omega)); obtain ⟨x15, hx16⟩ := hz
          have hz := (r_q5.rd).at (k := 3) (fun _ => rfl) hx16
          obtain ⟨g17, off18, hl19, hc20⟩ := hz
          have hp_x15 := ends_ok hx16
          have hf_x15 := from_at hx16
          have hl_x15 : (List.drop x15.1 (List.take x15.2.1 s)).length = x15.2.1 - x15.1 := by simp only [List.length_drop, List.length_take]; omega
          refine L_ixaddr (k := .i64) q5 i _ g17 off18 el23 hl19 (by first | omega | (simp only [List.length_drop, List.length_take]; omega)) (by kernel_rfl) (by kernel_rfl) (L_want (by kernel_rfl) (L_run (.pointer (some ⟨g17, (off18 + i * 3), none⟩)) (by kernel_rfl) (by kernel_rfl) (L_want (by kernel_rfl) (L_load g17 (off18 + i * 3) (.int .i64 ((x15.1 : Nat) : Int)) (by kernel_rfl) (by kernel_rfl) (hc20 0 _ rfl) (L_want (by kernel_rfl) (L_mv (L_want (by kernel_rfl) (L_cmp .i64 ((x15.1 : Nat) : Int) b (((x15.1 : Nat) : Int) ≤ b) rfl (cmp_le ((x15.1 : Nat) : Int) b) (by kernel_rfl) (by kernel_rfl) ?_ ?_))))))))
          · intro h21
            replace h21 : ((x15.1 : Nat) : Int) ≤ b := by omega
            refine L_pickF (by kernel_rfl) (L_nil (thenQ_normal (W_true (by kernel_rfl) (W_region (L_mv (L_as (L_nil (blkQ_normal (thenQ_normal (W_region (L_mv (L_addN i 1 (by omega) (by kernel_rfl) (by kernel_rfl) (L_as (L_nil ?_))))))))))))))
            refine thenQ_normal ⟨_, ?_, (i + 1), i, rfl, hds, by kernel_rfl, by kernel_rfl, by kernel_rfl, by kernel_rfl, by kernel_rfl, by kernel_rfl, by kernel_rfl, r_q5, hb, hs, ?_, ?_, ?_⟩
            · omega
            · omega
            · omega
            · first | exact lix_yes (.inl (by omega)) | exact lix_yes (.inr (by omega)) | exact (lix_no (by omega) (by omega)).trans i3
          · intro h22
            replace h22 : b < ((x15.1 : Nat) : Int) := by omega
            refine L_pickF (by kernel_rfl) (L_nil (thenQ_normal (W_false (by kernel_rfl) (W_skip (blkQ_normal (thenQ_normal (W_region (L_mv (L_addN i 1 (by omega) (by kernel_rfl) (by kernel_rfl) (L_as (L_nil ?_)))))))))))
            refine thenQ_normal ⟨_, ?_, (i + 1), no, rfl, hds, by kernel_rfl, by kernel_rfl, by kernel_rfl, by kernel_rfl, by kernel_rfl, by kernel_rfl, by kernel_rfl, r_q5, hb, hs, ?_, ?_, ?_⟩
            · omega
            · omega
            · omega
            · first | exact lix_yes (.inl (by omega)) | exact lix_yes (.inr (by omega)) | exact (lix_no (by omega) (by omega)).trans i3
      · intro h23
        replace h23 : (endsF s).length ≤ i := by omega
        refine L_nil (thenQ_normal (W_false (by kernel_rfl) (W_exit (thenQ_exit (thenQ_exit (blkQ_exit (thenQ_normal (W_seq (W_region (L_mv (L_mv ?_)))))))))))
        have hz := get_some (endsF s) no (by first | omega | (simp only [List.length_drop, List.length_take]; omega)); obtain ⟨x24, hx25⟩ := hz
        have hz := (r_q5.rd).at (k := 3) (fun _ => rfl) hx25
        obtain ⟨g26, off27, hl28, hc29⟩ := hz
        have hp_x24 := ends_ok hx25
        have hf_x24 := from_at hx25
        have hl_x24 : (List.drop x24.1 (List.take x24.2.1 s)).length = x24.2.1 - x24.1 := by simp only [List.length_drop, List.length_take]; omega
        refine L_ixaddr (k := .i64) q5 no _ g26 off27 el23 hl28 (by first | omega | (simp only [List.length_drop, List.length_take]; omega)) (by kernel_rfl) (by kernel_rfl) (L_loadA g26 (off27 + no * 3) [(.int .i64 ((x24.1 : Nat) : Int)), (.int .i64 ((x24.2.1 : Nat) : Int)), (.int .i64 ((x24.2.2 : Nat) : Int))] (by kernel_rfl) (by kernel_rfl) (by kernel_rfl) hc29 (L_new (fun b => .pointer (some ⟨b, 0, none⟩)) (.cells [(.int .i64 0), (.int .i64 0), (.int .i64 0)].toArray 75 (0, 0)) (by kernel_rfl) (by kernel_rfl) ?_))
        intro b30 w31 hN32
        have g_x9 : w.heap.size ≤ b30 := by rw [hN32.num]; exact hs
        have nb_o_x9_r_q5 := r_q5.new_ne hN32
        replace hb := hb.trans (hN32.below.mono hs)
        replace hs := Nat.le_trans hs (hN32.below.size)
        replace r_q5 := r_q5.below hN32.below
        have o_x9 := hN32.here
        refine L_storeA b30 0 [(.int .i64 ((x24.1 : Nat) : Int)), (.int .i64 ((x24.2.1 : Nat) : Int)), (.int .i64 ((x24.2.2 : Nat) : Int))] [(.int .i64 0), (.int .i64 0), (.int .i64 0)] [(.int .i64 ((x24.1 : Nat) : Int)), (.int .i64 ((x24.2.1 : Nat) : Int)), (.int .i64 ((x24.2.2 : Nat) : Int))] 75 (by kernel_rfl) (by kernel_rfl) rfl (by kernel_rfl) o_x9 (by kernel_rfl) rfl ?_
        intro w33 hW34
        replace hb := hb.trans (hW34.below g_x9)
        replace hs := Nat.le_trans hs (Nat.le_of_eq hW34.size.symm)
        have n_r_q5 := r_q5.wrote hW34 nb_o_x9_r_q5
        replace r_q5 := n_r_q5; clear n_r_q5
        replace o_x9 := hW34.here
        refine L_nil (thenQ_normal (W_seq (W_region (L_as (L_nil (thenQ_normal (W_seq (W_seq (W_region (L_mv (L_run (.pointer (some ⟨b30, 0, none⟩)) (by kernel_rfl) (by kernel_rfl) (L_load b30 0 (.int .i64 ((x24.1 : Nat) : Int)) (by kernel_rfl) (by kernel_rfl) (cell_obj o_x9 rfl) (L_run (.pointer (some ⟨b30, 1, none⟩)) (by kernel_rfl) (by kernel_rfl) (L_load b30 1 (.int .i64 ((x24.2.1 : Nat) : Int)) (by kernel_rfl) (by kernel_rfl) (cell_obj o_x9 rfl) (L_sslice s x24.1 x24.2.1 Tryd.underlying9 (by kernel_rfl) ⟨.i64, by kernel_rfl⟩ ⟨.i64, by kernel_rfl⟩ (by first | omega | (simp only [List.length_drop, List.length_take]; omega)) (by first | omega | (simp only [List.length_drop, List.length_take]; omega)) (L_call 39 [(S (List.drop x24.1 (List.take x24.2.1 s)))] (by kernel_rfl) (by kernel_rfl) (c_furrowref03_Chars (List.drop x24.1 (List.take x24.2.1 s)) _ (by first | omega | (simp only [List.length_drop, List.length_take]; omega))) ?_))))))))))))))))
        rintro q35 w36 ⟨_, rfl, r_q35, hB37⟩
        replace r_q35 := r_q35.base hs
        replace hb := hb.trans (hB37.mono hs)
        replace hs := Nat.le_trans hs (hB37.size)
        replace o_x9 := obj_below o_x9 hB37
        replace r_q5 := r_q5.below hB37
        have := chF_len (List.drop x24.1 (List.take x24.2.1 s))
        have := chars_len (List.drop x24.1 (List.take x24.2.1 s))
        refine L_len 76 79 (chF (List.drop x24.1 (List.take x24.2.1 s))).length q35 rfl Tryd.underlying76 (r_q35.rd).len (by kernel_rfl) (L_mv (L_nil (thenQ_normal (W_block ?_))))
        refine W_loop (fun m s0 w0 => ∃ (k : Nat) (col : Nat), (m = (chF (List.drop x24.1 (List.take x24.2.1 s))).length - k) ∧ (s0.ds = []) ∧ (s0.f 1 = (.int .i64 b)) ∧ (s0.f 4 = (.int .i64 0)) ∧ (s0.f 5 = (.int .i64 0)) ∧ (s0.f 7 = (.int .i64 ((no : Nat) : Int))) ∧ (s0.f 9 = (.pointer (some ⟨b30, 0, none⟩))) ∧ (s0.f 51 = q35) ∧ (s0.f 52 = (.int .i64 (((chF (List.drop x24.1 (List.take x24.2.1 s))).length : Nat) : Int))) ∧ (s0.f 10 = (.int .i64 ((col : Nat) : Int))) ∧ (s0.f 53 = (.int .i64 ((k : Nat) : Int))) ∧ (Row w0 w.heap.size 75 3 encPcN q5 (endsF s)) ∧ (Row w0 w.heap.size 79 4 encChar q35 (chF (List.drop x24.1 (List.take x24.2.1 s)))) ∧ (w0.heap[b30]? = some (.cells [(.int .i64 ((x24.1 : Nat) : Int)), (.int .i64 ((x24.2.1 : Nat) : Int)), (.int .i64 ((x24.2.2 : Nat) : Int))].toArray 75 (0, 0))) ∧ (Below w.heap.size w w0) ∧ (w.heap.size ≤ w0.heap.size) ∧ (k ≤ (chF (List.drop x24.1 (List.take x24.2.1 s))).length) ∧ (col ≤ k + 1) ∧ (col = 1 + cntE (b - (x24.1 : Nat)) ((charsFrom (List.drop x24.1 (List.take x24.2.1 s)) 0).take k))) _ ⟨0, 1, rfl, hds, by kernel_rfl, by kernel_rfl, by kernel_rfl, by kernel_rfl, by kernel_rfl, by kernel_rfl, by kernel_rfl, by kernel_rfl, by kernel_rfl, r_q5, r_q35, o_x9, hb, hs, (Nat.zero_le _), (Nat.le_refl _), rfl⟩ ?_
        rintro m39 s40 w41 ⟨k, col, hm, hds, f_1, f_4, f_5, f_7, f_9, f_51, f_52, f_10, f_53, r_q5, r_q35, o_x9, hb, hs, j1, j2, j3⟩
        refine W_set 1 _ f_1 (W_set 4 _ f_4 (W_set 5 _ f_5 (W_set 7 _ f_7 (W_set 9 _ f_9 (W_set 51 _ f_51 (W_set 52 _ f_52 (W_set 10 _ f_10 (W_set 53 _ f_53 ?_))))))))
        clear f_1 f_4 f_5 f_7 f_9 f_51 f_52 f_10 f_53
        refine W_seq (W_region (L_cmp .i64 ((k : Nat) : Int) (((chF (List.drop x24.1 (List.take x24.2.1 s))).length : Nat) : Int) (k < (chF (List.drop x24.1 (List.take x24.2.1 s))).length) rfl (cmpN_lt k ((chF (List.drop x24.1 (List.take x24.2.1 s))).length)) (by kernel_rfl) (by kernel_rfl) ?_ ?_))
        · intro h42
          replace h42 : k < (chF (List.drop x24.1 (List.take x24.2.1 s))).length := by omega
          refine L_nil (thenQ_normal (W_seq (W_true (by kernel_rfl) (W_skip (thenQ_normal (W_seq (W_block (W_seq (W_region ?_)))))))))
          have hz := get_some (chF (List.drop x24.1 (List.take x24.2.1 s))) k (by first | omega | (simp only [List.length_drop, List.length_take]; omega)); obtain ⟨x43, hx44⟩ := hz
          have hz := (r_q35.rd).at (k := 4) (fun _ => rfl) hx44
          obtain ⟨g45, off46, hl47, hc48⟩ := hz
          have hy_x43 := chF_le hx44
          simp only [List.length_drop, List.length_take] at hy_x43
          refine L_ixaddr (k := .i64) q35 k _ g45 off46 el76 hl47 (by first | omega | (simp only [List.length_drop, List.length_take]; omega)) (by kernel_rfl) (by kernel_rfl) (L_loadA g45 (off46 + k * 4) [(.int .i64 ((x43.1 : Nat) : Int)), (.int .i64 ((x43.2.1 : Nat) : Int)), (.int .i32 x43.2.2.1), (.bool x43.2.2.2)] (by kernel_rfl) (by kernel_rfl) (by kernel_rfl) hc48 (L_new (fun b => .pointer (some ⟨b, 0, none⟩)) (.cells [(.int .i64 0), (.int .i64 0), (.int .i32 0), (.bool false)].toArray 79 (0, 0)) (by kernel_rfl) (by kernel_rfl) ?_))
          intro b49 w50 hN51
          have ne_x9_x12 : b30 ≠ b49 := by have := (obj_lt o_x9); have := hN51.num; omega
          have ne_x12_x9 := ne_x9_x12.symm
          have g_x12 : w.heap.size ≤ b49 := by rw [hN51.num]; exact hs
          have nb_o_x12_r_q35 := r_q35.new_ne hN51
          replace hb := hb.trans (hN51.below.mono hs)
          replace hs := Nat.le_trans hs (hN51.below.size)
          replace o_x9 := obj_below o_x9 hN51.below
          replace r_q5 := r_q5.below hN51.below
          replace r_q35 := r_q35.below hN51.below
          have o_x12 := hN51.here
          refine L_storeA b49 0 [(.int .i64 ((x43.1 : Nat) : Int)), (.int .i64 ((x43.2.1 : Nat) : Int)), (.int .i32 x43.2.2.1), (.bool x43.2.2.2)] [(.int .i64 0), (.int .i64 0), (.int .i32 0), (.bool false)] [(.int .i64 ((x43.1 : Nat) : Int)), (.int .i64 ((x43.2.1 : Nat) : Int)), (.int .i32 x43.2.2.1), (.bool x43.2.2.2)] 79 (by kernel_rfl) (by kernel_rfl) rfl (by kernel_rfl) o_x12 (by kernel_rfl) rfl ?_
          intro w52 hW53
          replace hb := hb.trans (hW53.below g_x12)
          replace hs := Nat.le_trans hs (Nat.le_of_eq hW53.size.symm)
          have n_o_x9 := obj_wrote o_x9 hW53 (obj_ne o_x9 o_x12 (by simp))
          have n_r_q5 := r_q5.wrote hW53 (r_q5.ne o_x12 (by simp))
          have n_r_q35 := r_q35.wrote hW53 nb_o_x12_r_q35
          replace o_x9 := n_o_x9; clear n_o_x9
          replace r_q5 := n_r_q5; clear n_r_q5
          replace r_q35 := n_r_q35; clear n_r_q35
          replace o_x12 := hW53.here
          refine L_nil (thenQ_normal (W_seq (W_region (L_run (.pointer (some ⟨b30, 0, none⟩)) (by kernel_rfl) (by kernel_rfl) (L_load b30 0 (.int .i64 ((x24.1 : Nat) : Int)) (by kernel_rfl) (by kernel_rfl) (cell_obj o_x9 rfl) (L_run (.pointer (some ⟨b49, 0, none⟩)) (by kernel_rfl) (by kernel_rfl) (L_load b49 0 (.int .i64 ((x43.1 : Nat) : Int)) (by kernel_rfl) (by kernel_rfl) (cell_obj o_x12 rfl) (L_addN x24.1 x43.1 (by omega) (by kernel_rfl) (by kernel_rfl) (L_run (.pointer (some ⟨b49, 1, none⟩)) (by kernel_rfl) (by kernel_rfl) (L_load b49 1 (.int .i64 ((x43.2.1 : Nat) : Int)) (by kernel_rfl) (by kernel_rfl) (cell_obj o_x12 rfl) (L_addN (x24.1 + x43.1) x43.2.1 (by omega) (by kernel_rfl) (by kernel_rfl) (L_mv (L_cmp .i64 ((((x24.1 + x43.1) + x43.2.1) : Nat) : Int) b (((((x24.1 + x43.1) + x43.2.1) : Nat) : Int) ≤ b) rfl (cmp_le ((((x24.1 + x43.1) + x43.2.1) : Nat) : Int) b) (by kernel_rfl) (by kernel_rfl) ?_ ?_)))))))))))))
          · intro h54
            replace h54 : ((((x24.1 + x43.1) + x43.2.1) : Nat) : Int) ≤ b := by omega
            refine L_nil (thenQ_normal (W_true (by kernel_rfl) (W_region (L_mv (L_addN col 1 (by omega) (by kernel_rfl) (by kernel_rfl) (L_as (L_nil (blkQ_normal (thenQ_normal (W_region (L_addN k 1 (by omega) (by kernel_rfl) (by kernel_rfl) (L_mv (L_nil ?_)))))))))))))
            refine thenQ_normal ⟨_, ?_, (k + 1), (col + 1), rfl, hds, by kernel_rfl, by kernel_rfl, by kernel_rfl, by kernel_rfl, by kernel_rfl, by kernel_rfl, by kernel_rfl, by kernel_rfl, by kernel_rfl, r_q5, r_q35, o_x9, hb, hs, ?_, ?_, ?_⟩
            · omega
            · omega
            · omega
            · first | exact cntR_yes (by assumption) (by omega) j3 | exact cntR_no (by assumption) (by omega) j3
          · intro h55
            replace h55 : b < ((((x24.1 + x43.1) + x43.2.1) : Nat) : Int) := by omega
            refine L_nil (thenQ_normal (W_false (by kernel_rfl) (W_skip (blkQ_normal (thenQ_normal (W_region (L_addN k 1 (by omega) (by kernel_rfl) (by kernel_rfl) (L_mv (L_nil ?_)))))))))
            refine thenQ_normal ⟨_, ?_, (k + 1), col, rfl, hds, by kernel_rfl, by kernel_rfl, by kernel_rfl, by kernel_rfl, by kernel_rfl, by kernel_rfl, by kernel_rfl, by kernel_rfl, by kernel_rfl, r_q5, r_q35, o_x9, hb, hs, ?_, ?_, ?_⟩
            · omega
            · omega
            · omega
            · first | exact cntR_yes (by assumption) (by omega) j3 | exact cntR_no (by assumption) (by omega) j3
        · intro h56
          replace h56 : (chF (List.drop x24.1 (List.take x24.2.1 s))).length ≤ k := by omega
          refine L_nil (thenQ_normal (W_seq (W_false (by kernel_rfl) (W_exit (thenQ_exit (thenQ_exit (blkQ_exit (thenQ_normal (W_seq (W_region (L_mv (L_addN no 1 (by omega) (by kernel_rfl) (by kernel_rfl) (L_mv (L_as (L_as (L_nil (thenQ_normal (W_ret ?_))))))))))))))))))
          refine end_ret [.tmp 4, .tmp 5] [(.int .i64 (((no + 1) : Nat) : Int)), (.int .i64 ((col : Nat) : Int))] rfl hds ⟨by kernel_rfl, by kernel_rfl, trivial⟩ ?_
          have hE : (((((no + 1) : Nat) : Int) : Int) = (whereF s b).1) ∧ ((((col : Nat) : Int) : Int) = (whereF s b).2) := ⟨(by first | (rw [where_arg (by omega)]; done) | (rw [whereR_is (by omega) (by omega) i1 (by omega) i3 (by assumption) (by omega) j3]; done)), (by first | (rw [where_arg (by omega)]; done) | (rw [whereR_is (by omega) (by omega) i1 (by omega) i3 (by assumption) (by omega) j3]; done))⟩
          exact ⟨tup2 (congrArg (Value.int .i64) hE.1) (congrArg (Value.int .i64) hE.2), hb⟩

set_option maxHeartbeats 4000000 in
set_option maxRecDepth 100000 in
theorem c_lines_Where (s : List UInt8) (b : Int) (w : World) (hs : s.length ≤ 1073741824) :
    Calls Tryd.prog 37 #[(S s), (.int .i64 b)] w (Ret fun v w' => v = (.tuple #[(.int .i64 ((whereF s b).1)), (.int .i64 ((whereF s b).2))]) ∧ Below w.heap.size w w') := by
  refine enter (args := [(S s), (.int .i64 b)]) Tryd.func37 rfl (by kernel_rfl : _ = 92) (by kernel_rfl) ?_
  have hb := Below.refl w.heap.size w
  have hs : w.heap.size ≤ w.heap.size := Nat.le_refl _
  refine W_seq (W_region (L_as (L_as (L_nil (thenQ_normal (W_seq (W_seq (W_region (L_mv (L_cmp .i64 b 0 (b < 0) rfl (cmp_lt b 0) (by kernel_rfl) (by kernel_rfl) ?_ ?_))))))))))
  · intro h1
    replace h1 : b < 0 := by omega
    refine L_mv (L_skip (by kernel_rfl) (L_skip (by kernel_rfl) (L_skip (by kernel_rfl) (L_skip (by kernel_rfl) (L_pickT (by kernel_rfl) (L_nil (thenQ_normal (W_true (by kernel_rfl) (W_seq (W_region (L_as (L_as (L_nil (thenQ_normal (W_ret (thenQ_ret ?_))))))))))))))))
    refine end_ret [.tmp 4, .tmp 5] [(.int .i64 0), (.int .i64 0)] rfl rfl ⟨by kernel_rfl, by kernel_rfl, trivial⟩ ?_
    have hE : ((0 : Int) = (whereF s b).1) ∧ ((0 : Int) = (whereF s b).2) := ⟨(by first | (rw [where_arg (by omega)]; done) | (rw [whereI_is (by omega) (by omega) i3 (by omega) (by assumption) j3 ge_it48 1 (by omega)]; done) | (rw [whereI_is (by omega) (by omega) i3 (by omega) (by assumption) j3 ge_it48 0 (by omega)]; done) | (rw [whereI_is (by omega) (by omega) i3 (by omega) (by assumption) j3 ge_it48 0 (by omega)]; rfl)), (by first | (rw [where_arg (by omega)]; done) | (rw [whereI_is (by omega) (by omega) i3 (by omega) (by assumption) j3 ge_it48 1 (by omega)]; done) | (rw [whereI_is (by omega) (by omega) i3 (by omega) (by assumption) j3 ge_it48 0 (by omega)]; done) | (rw [whereI_is (by omega) (by omega) i3 (by omega) (by assumption) j3 ge_it48 0 (by omega)]; rfl))⟩
    exact ⟨tup2 (congrArg (Value.int .i64) hE.1) (congrArg (Value.int .i64) hE.2), hb⟩
  · intro h2
    replace h2 : 0 ≤ b := by omega
    refine L_mv (L_want (by kernel_rfl) (L_mv (L_want (by kernel_rfl) (L_mv (L_want (by kernel_rfl) (L_slen 9 s rfl Tryd.underlying9 (by kernel_rfl) (L_want (by kernel_rfl) (L_cmp .i64 b (((s).length : Nat) : Int) ((((s).length : Nat) : Int) < b) rfl (cmp_gt b (((s).length : Nat) : Int)) (by kernel_rfl) (by kernel_rfl) ?_ ?_))))))))
    · intro h3
      replace h3 : (((s).length : Nat) : Int) < b := by omega
      refine L_pickF (by kernel_rfl) (L_nil (thenQ_normal (W_true (by kernel_rfl) (W_seq (W_region (L_as (L_as (L_nil (thenQ_normal (W_ret (thenQ_ret ?_)))))))))))
      refine end_ret [.tmp 4, .tmp 5] [(.int .i64 0), (.int .i64 0)] rfl rfl ⟨by kernel_rfl, by kernel_rfl, trivial⟩ ?_
      have hE : ((0 : Int) = (whereF s b).1) ∧ ((0 : Int) = (whereF s b).2) := ⟨(by first | (rw [where_arg (by omega)]; done) | (rw [whereI_is (by omega) (by omega) i3 (by omega) (by assumption) j3 ge_it48 1 (by omega)]; done) | (rw [whereI_is (by omega) (by omega) i3 (by omega) (by assumption) j3 ge_it48 0 (by omega)]; done) | (rw [whereI_is (by omega) (by omega) i3 (by omega) (by assumption) j3 ge_it48 0 (by omega)]; rfl)), (by first | (rw [where_arg (by omega)]; done) | (rw [whereI_is (by omega) (by omega) i3 (by omega) (by assumption) j3 ge_it48 1 (by omega)]; done) | (rw [whereI_is (by omega) (by omega) i3 (by omega) (by assumption) j3 ge_it48 0 (by omega)]; done) | (rw [whereI_is (by omega) (by omega) i3 (by omega) (by assumption) j3 ge_it48 0 (by omega)]; rfl))⟩
      exact ⟨tup2 (congrArg (Value.int .i64) hE.1) (congrArg (Value.int .i64) hE.2), hb⟩
    · intro h4
      replace h4 : b ≤ (((s).length : Nat) : Int) := by omega
      refine L_pickF (by kernel_rfl) (L_nil (thenQ_normal (W_false (by kernel_rfl) (W_skip (thenQ_normal (W_seq (W_region (L_mv (L_call 44 [(S s)] (by kernel_rfl) (by kernel_rfl) (c_lines_pieces s _ (by first | omega | (simp only [List.length_drop, List.length_take]; omega))) ?_)))))))))
      rintro q5 w6 ⟨_, rfl, r_q5, hB7⟩
      replace r_q5 := r_q5.base hs
      replace hb := hb.trans (hB7.mono hs)
      replace hs := Nat.le_trans hs (hB7.size)
      have := pcsI_len s
      refine L_as (L_nil (thenQ_normal (W_seq (W_region (L_mv (L_len 86 89 (pcsI s).length q5 rfl Tryd.underlying86 (r_q5.rd).len (by kernel_rfl) (L_subN ((pcsI s).length) 1 (by omega) (by omega) (by kernel_rfl) (by kernel_rfl) (L_as (L_nil (thenQ_normal (W_seq (W_block ?_))))))))))))
      refine W_loop (fun m s0 w0 => ∃ (i : Nat), (m = i) ∧ (s0.ds = []) ∧ (s0.f 0 = (S s)) ∧ (s0.f 1 = (.int .i64 b)) ∧ (s0.f 4 = (.int .i64 0)) ∧ (s0.f 5 = (.int .i64 0)) ∧ (s0.f 6 = q5) ∧ (s0.f 7 = (.int .i64 ((i : Nat) : Int))) ∧ (Row w0 w.heap.size 89 3 encPc q5 (pcsI s)) ∧ (Below w.heap.size w w0) ∧ (w.heap.size ≤ w0.heap.size) ∧ (i < (pcsI s).length) ∧ (lixF s b (i + 1) = lixF s b (pcsI s).length)) _ ⟨((pcsI s).length - 1), rfl, by kernel_rfl, by kernel_rfl, by kernel_rfl, by kernel_rfl, by kernel_rfl, by kernel_rfl, by kernel_rfl, r_q5, hb, hs, (by omega), (by congr 1; omega)⟩ ?_
      rintro m9 s10 w11 ⟨i, hm, hds, f_0, f_1, f_4, f_5, f_6, f_7, r_q5, hb, hs, i1, i3⟩
      refine W_set 0 _ f_0 (W_set 1 _ f_1 (W_set 4 _ f_4 (W_set 5 _ f_5 (W_set 6 _ f_6 (W_set 7 _ f_7 ?_)))))
      clear f_0 f_1 f_4 f_5 f_6 f_7
      refine W_seq (W_seq (W_region (L_mv (L_cmp .i64 ((i : Nat) : Int) ((0 : Nat) : Int) (0 < i) rfl (cmpN_gt i 0) (by kernel_rfl) (by kernel_rfl) ?_ ?_))))
      · intro h12
        replace h12 : 0 < i := by omega
        refine L_mv (L_want (by kernel_rfl) (L_mv (L_want (by kernel_rfl) (L_mv (L_want (by kernel_rfl) ?_)))))
        have hz := get_some (pcsI s) i (by first | omega | (simp only [List.length_drop, List.length_take]; omega)); obtain ⟨x13, hx14⟩ := hz
        have hz := (r_q5.rd).at (k := 3) (fun _ => rfl) hx14
        obtain ⟨g15, off16, hl17, hc18⟩ := hz
        have hpo_x13 := pcsI_ok hx14
        obtain ⟨po1_x13, po2_x13, po3_x13, po4_x13⟩ := hpo_x13
        have hf_x13 := fromI_at hx14
        have hl_x13 : (List.drop x13.1.toNat (List.take x13.2.1.toNat s)).length = (x13.2.1 - x13.1).toNat := by simp only [List.length_drop, List.length_take]; omega
        refine L_ixaddr (k := .i64) q5 i _ g15 off16 el86 hl17 (by first | omega | (simp only [List.length_drop, List.length_take]; omega)) (by kernel_rfl) (by kernel_rfl) (L_want (by kernel_rfl) (L_run (.pointer (some ⟨g15, (off16 + i * 3), none⟩)) (by kernel_rfl) (by kernel_rfl) (L_want (by kernel_rfl) (L_load g15 (off16 + i * 3) (.int .i64 x13.1) (by kernel_rfl) (by kernel_rfl) (hc18 0 _ rfl) (L_want (by kernel_rfl) (L_mv (L_want (by kernel_rfl) (L_cmp .i64 x13.1 b (b < x13.1) rfl (cmp_gt x13.1 b) (by kernel_rfl) (by kernel_rfl) ?_ ?_))))))))
        · intro h19
          replace h19 : b < x13.1 := by omega
          refine L_pickT (by kernel_rfl) (L_nil (thenQ_normal (W_true (by kernel_rfl) (W_skip (thenQ_normal (W_block (W_region (L_mv (L_subN i 1 (by omega) (by omega) (by kernel_rfl) (by kernel_rfl) (L_as (L_nil (blkQ_normal ?_))))))))))))
          refine thenQ_normal ⟨_, ?_, (i - 1), rfl, hds, by kernel_rfl, by kernel_rfl, by kernel_rfl, by kernel_rfl, by kernel_rfl, by kernel_rfl, r_q5, hb, hs, ?_, ?_⟩
          · omega
          · omega
          · rw [show i - 1 + 1 = i by omega, ← i3]; exact (lix_no (by omega) (by omega)).symm
        · intro h20
          replace h20 : x13.1 ≤ b := by omega
          refine L_pickT (by kernel_rfl) (L_nil (thenQ_normal (W_false (by kernel_rfl) (W_exit (thenQ_exit (thenQ_exit (blkQ_exit (thenQ_normal (W_seq (W_region (L_as (L_nil (thenQ_normal (W_seq (W_seq (W_held 13 (by kernel_rfl) (by kernel_rfl) ?_))))))))))))))))
          intro w21 hB22
          replace hb := hb.trans (hB22.mono hs)
          replace hs := Nat.le_trans hs (hB22.size)
          replace r_q5 := r_q5.below hB22
          refine ⟨fun w2 => Ch (fun _ => False) w21 w2, ?_⟩
          have hS : Ch (fun _ => False) w21 w21 := Ch.refl _ _
          refine H_take 0 (S s) rfl (by kernel_rfl) (by kernel_rfl) (by kernel_rfl) (noPanic_then (noPanic_then noPanic_end)) hS (by kernel_rfl) (fun _ _ => by kernel_rfl) ?_
          refine H_take 1 q5 rfl (by kernel_rfl) (by kernel_rfl) (by kernel_rfl) (noPanic_then (noPanic_then noPanic_end)) hS (by kernel_rfl) (fun _ _ => by kernel_rfl) ?_
          refine H_take 2 (.int .i64 ((i : Nat) : Int)) rfl (by kernel_rfl) (by kernel_rfl) (by kernel_rfl) (noPanic_then (noPanic_then noPanic_end)) hS (by kernel_rfl) (fun _ _ => by kernel_rfl) ?_
          have hz := (r_q5.rd).at (k := 3) (fun _ => rfl) hx14
          obtain ⟨g25, off26, hl27, hc28⟩ := hz
          refine H_take 3 (.pointer (some ⟨g25, (off26 + i * 3), none⟩)) rfl (by kernel_rfl) (by kernel_rfl) (by kernel_rfl) (noPanic_then (noPanic_then noPanic_end)) hS (by kernel_rfl) (R_ixaddr (k := .i64) q5 i _ g25 off26 el86 hl27 (by first | omega | (simp only [List.length_drop, List.length_take]; omega)) (by kernel_rfl) (by kernel_rfl)) ?_
          refine H_take 4 (.pointer (some ⟨g25, (off26 + i * 3), none⟩)) rfl (by kernel_rfl) (by kernel_rfl) (by kernel_rfl) (noPanic_then (noPanic_then noPanic_end)) hS (by kernel_rfl) (fun _ _ => by kernel_rfl) ?_
          refine H_take 5 (.int .i64 x13.1) rfl (by kernel_rfl) (by kernel_rfl) (by kernel_rfl) (noPanic_then (noPanic_then noPanic_end)) hS (by kernel_rfl) (R_load g25 (off26 + i * 3) (.int .i64 x13.1) (by kernel_rfl) (fun _ => by kernel_rfl) (fun w2 h2 => cell_ch (hc28 0 _ rfl) h2 (fun h => h.elim))) ?_
          refine H_take 6 q5 rfl (by kernel_rfl) (by kernel_rfl) (by kernel_rfl) (noPanic_then (noPanic_then noPanic_end)) hS (by kernel_rfl) (fun _ _ => by kernel_rfl) ?_
          refine H_take 7 (.int .i64 ((i : Nat) : Int)) rfl (by kernel_rfl) (by kernel_rfl) (by kernel_rfl) (noPanic_then (noPanic_then noPanic_end)) hS (by kernel_rfl) (fun _ _ => by kernel_rfl) ?_
          have hz := (r_q5.rd).at (k := 3) (fun _ => rfl) hx14
          obtain ⟨g31, off32, hl33, hc34⟩ := hz
          refine H_take 8 (.pointer (some ⟨g31, (off32 + i * 3), none⟩)) rfl (by kernel_rfl) (by kernel_rfl) (by kernel_rfl) (noPanic_then (noPanic_then noPanic_end)) hS (by kernel_rfl) (R_ixaddr (k := .i64) q5 i _ g31 off32 el86 hl33 (by first | omega | (simp only [List.length_drop, List.length_take]; omega)) (by kernel_rfl) (by kernel_rfl)) ?_
          refine H_take 9 (.pointer (some ⟨g31, ((off32 + i * 3) + 1), none⟩)) rfl (by kernel_rfl) (by kernel_rfl) (by kernel_rfl) (noPanic_then (noPanic_then noPanic_end)) hS (by kernel_rfl) (fun _ _ => by kernel_rfl) ?_
          refine H_take 10 (.int .i64 x13.2.1) rfl (by kernel_rfl) (by kernel_rfl) (by kernel_rfl) (noPanic_then (noPanic_then noPanic_end)) hS (by kernel_rfl) (R_load g31 ((off32 + i * 3) + 1) (.int .i64 x13.2.1) (by kernel_rfl) (fun _ => by kernel_rfl) (fun w2 h2 => cell_ch (hc34 1 _ rfl) h2 (fun h => h.elim))) ?_
          refine H_all1 11 (by kernel_rfl) ?_
          refine H_op 11 rfl (by kernel_rfl) plain_slice ?_
          refine L_sslice s ((x13.1).toNat) ((x13.2.1).toNat) Tryd.underlying9 (by kernel_rfl) (toNat_val x13.1 .i64 (by kernel_rfl) (by omega)) (toNat_val x13.2.1 .i64 (by kernel_rfl) (by omega)) (by first | omega | (simp only [List.length_drop, List.length_take]; omega)) (by first | omega | (simp only [List.length_drop, List.length_take]; omega)) (L_nil ?_)
          refine ⟨rfl, hS, ?_⟩
          refine H_all1 12 (by kernel_rfl) ?_
          refine H_op 12 rfl (by kernel_rfl) plain_range ?_
          refine L_range (List.drop ((x13.1).toNat) (List.take ((x13.2.1).toNat) s)) Tryd.underlying9 (by kernel_rfl) ?_
          intro b35 w36 hN37
          have g_it48 : w.heap.size ≤ b35 := by rw [hN37.num]; exact hs
          replace hb := hb.trans (hN37.below.mono hs)
          replace hS := hS.trans2 (Ch.of_below hN37.below) (fun _ h => h.elim)
          replace hs := Nat.le_trans hs (hN37.below.size)
          replace r_q5 := r_q5.below hN37.below
          have o_it48 := hN37.here
          refine L_nil ?_
          refine ⟨rfl, hS, ?_⟩
          refine H_done (by kernel_rfl) ?_
          refine thenQ_normal (W_block ?_)
          refine W_loop (fun m s0 w0 => ∃ (pos : Nat) (cn : Nat), (m = (List.drop ((x13.1).toNat) (List.take ((x13.2.1).toNat) s)).length - pos) ∧ (s0.ds = []) ∧ (s0.f 1 = (.int .i64 b)) ∧ (s0.f 4 = (.int .i64 0)) ∧ (s0.f 5 = (.int .i64 0)) ∧ (s0.f 6 = q5) ∧ (s0.f 7 = (.int .i64 ((i : Nat) : Int))) ∧ (s0.f 48 = (.pointer (some ⟨b35, 0, none⟩))) ∧ (s0.f 8 = (.int .i64 ((cn : Nat) : Int))) ∧ (Row w0 w.heap.size 89 3 encPc q5 (pcsI s)) ∧ (w0.heap[b35]? = some (.stringIter ⟨((List.drop ((x13.1).toNat) (List.take ((x13.2.1).toNat) s))).toArray⟩ pos)) ∧ (Below w.heap.size w w0) ∧ (w.heap.size ≤ w0.heap.size) ∧ (pos ≤ (List.drop ((x13.1).toNat) (List.take ((x13.2.1).toNat) s)).length) ∧ (cn ≤ pos + 1) ∧ (cn + cntA (b - x13.1) (charsFrom (List.drop ((x13.1).toNat) (List.take ((x13.2.1).toNat) s)) pos) = 1 + cntA (b - x13.1) (charsFrom (List.drop ((x13.1).toNat) (List.take ((x13.2.1).toNat) s)) 0))) _ ⟨0, 1, rfl, hds, by kernel_rfl, by kernel_rfl, by kernel_rfl, by kernel_rfl, by kernel_rfl, by kernel_rfl, by kernel_rfl, r_q5, o_it48, hb, hs, (Nat.zero_le _), (Nat.le_refl _), rfl⟩ ?_
          rintro m38 s39 w40 ⟨pos, cn, hm, hds, f_1, f_4, f_5, f_6, f_7, f_48, f_8, r_q5, o_it48, hb, hs, j1, j2, j3⟩
          refine W_set 1 _ f_1 (W_set 4 _ f_4 (W_set 5 _ f_5 (W_set 6 _ f_6 (W_set 7 _ f_7 (W_set 48 _ f_48 (W_set 8 _ f_8 ?_))))))
          clear f_1 f_4 f_5 f_6 f_7 f_48 f_8
          refine W_seq (W_region ?_)
          rcases Nat.lt_or_ge pos ((List.drop ((x13.1).toNat) (List.take ((x13.2.1).toNat) s))).length with lt_it48 | ge_it48
          · refine L_next (List.drop ((x13.1).toNat) (List.take ((x13.2.1).toNat) s)) b35 pos (by kernel_rfl) o_it48 lt_it48 ?_
            intro c_it48 w41 ch_it48 hW42
            replace hb := hb.trans (hW42.below g_it48)
            replace hs := Nat.le_trans hs (Nat.le_of_eq hW42.size.symm)
            have n_r_q5 := r_q5.wrote hW42 (r_q5.ne o_it48 (by simp))
            replace r_q5 := n_r_q5; clear n_r_q5
            replace o_it48 := hW42.here
            have := dec_pos (List.drop ((x13.1).toNat) (List.take ((x13.2.1).toNat) s)) pos; have := dec_fits (List.drop ((x13.1).toNat) (List.take ((x13.2.1).toNat) s)) pos lt_it48; have := dec_le (List.drop ((x13.1).toNat) (List.take ((x13.2.1).toNat) s)) pos
            have c_it48_0 : 0 ≤ c_it48 := by omega
            have c_it48_1 : c_it48 ≤ 2147483647 := by omega
            refine L_run (.bool true) (by kernel_rfl) (by kernel_rfl) (L_nil (thenQ_normal (W_seq (W_true (by kernel_rfl) (W_skip (thenQ_normal (W_block (W_seq (W_region (L_run (.int .i64 ((pos : Nat) : Int)) (by kernel_rfl) (by kernel_rfl) (L_as (L_nil (thenQ_normal (W_seq (W_region (L_mv (L_cmp .i64 ((pos : Nat) : Int) ((0 : Nat) : Int) (0 < pos) rfl (cmpN_gt pos 0) (by kernel_rfl) (by kernel_rfl) ?_ ?_)))))))))))))))))
            · intro h43
              replace h43 : 0 < pos := by omega
              refine L_mv (L_want (by kernel_rfl) (L_mv (L_want (by kernel_rfl) (L_mv (L_want (by kernel_rfl) ?_)))))
              have hz := (r_q5.rd).at (k := 3) (fun _ => rfl) hx14
              obtain ⟨g46, off47, hl48, hc49⟩ := hz
              refine L_ixaddr (k := .i64) q5 i _ g46 off47 el86 hl48 (by first | omega | (simp only [List.length_drop, List.length_take]; omega)) (by kernel_rfl) (by kernel_rfl) (L_want (by kernel_rfl) (L_run (.pointer (some ⟨g46, (off47 + i * 3), none⟩)) (by kernel_rfl) (by kernel_rfl) (L_want (by kernel_rfl) (L_load g46 (off47 + i * 3) (.int .i64 x13.1) (by kernel_rfl) (by kernel_rfl) (hc49 0 _ rfl) (L_want (by kernel_rfl) (L_mv (L_want (by kernel_rfl) (L_arith x13.1 ((pos : Nat) : Int) (x13.1 + ((pos : Nat) : Int)) rfl (by kernel_rfl) (by kernel_rfl) (wrap_i64 _ (by simp only [arithZ]; omega) (by simp only [arithZ]; omega)) (L_want (by kernel_rfl) (L_mv (L_want (by kernel_rfl) (L_cmp .i64 (x13.1 + ((pos : Nat) : Int)) b ((x13.1 + ((pos : Nat) : Int)) ≤ b) rfl (cmp_le (x13.1 + ((pos : Nat) : Int)) b) (by kernel_rfl) (by kernel_rfl) ?_ ?_))))))))))))
              · intro h50
                replace h50 : (x13.1 + ((pos : Nat) : Int)) ≤ b := by omega
                refine L_pickT (by kernel_rfl) (L_nil (thenQ_normal (W_true (by kernel_rfl) (W_region (L_mv (L_addN cn 1 (by omega) (by kernel_rfl) (by kernel_rfl) (L_as (L_nil (blkQ_normal ?_)))))))))
                refine thenQ_normal ⟨_, ?_, (pos + (dec (List.drop ((x13.1).toNat) (List.take ((x13.2.1).toNat) s)) pos).2), (cn + 1), rfl, hds, by kernel_rfl, by kernel_rfl, by kernel_rfl, by kernel_rfl, by kernel_rfl, by kernel_rfl, by kernel_rfl, r_q5, o_it48, hb, hs, ?_, ?_, ?_⟩
                · omega
                · omega
                · omega
                · first | exact cntP_yes lt_it48 (by omega) j3 | exact cntP_no lt_it48 (by omega) j3
              · intro h51
                replace h51 : b < (x13.1 + ((pos : Nat) : Int)) := by omega
                refine L_pickT (by kernel_rfl) (L_nil (thenQ_normal (W_false (by kernel_rfl) (W_skip (blkQ_normal ?_)))))
                refine thenQ_normal ⟨_, ?_, (pos + (dec (List.drop ((x13.1).toNat) (List.take ((x13.2.1).toNat) s)) pos).2), cn, rfl, hds, by kernel_rfl, by kernel_rfl, by kernel_rfl, by kernel_rfl, by kernel_rfl, by kernel_rfl, by kernel_rfl, r_q5, o_it48, hb, hs, ?_, ?_, ?_⟩
                · omega
                · omega
                · omega
                · first | exact cntP_yes lt_it48 (by omega) j3 | exact cntP_no lt_it48 (by omega) j3
            · intro h52
              replace h52 : pos ≤ 0 := by omega
              refine L_mv (L_skip (by kernel_rfl) (L_skip (by kernel_rfl) (L_skip (by kernel_rfl) (L_skip (by kernel_rfl) (L_skip (by kernel_rfl) (L_skip (by kernel_rfl) (L_skip (by kernel_rfl) (L_skip (by kernel_rfl) (L_skip (by kernel_rfl) (L_pickF (by kernel_rfl) (L_nil (thenQ_normal (W_false (by kernel_rfl) (W_skip (blkQ_normal ?_)))))))))))))))
              refine thenQ_normal ⟨_, ?_, (pos + (dec (List.drop ((x13.1).toNat) (List.take ((x13.2.1).toNat) s)) pos).2), cn, rfl, hds, by kernel_rfl, by kernel_rfl, by kernel_rfl, by kernel_rfl, by kernel_rfl, by kernel_rfl, by kernel_rfl, r_q5, o_it48, hb, hs, ?_, ?_, ?_⟩
              · omega
              · omega
              · omega
              · first | exact cntP_yes lt_it48 (by omega) j3 | exact cntP_no lt_it48 (by omega) j3
          · refine L_nextEnd (List.drop ((x13.1).toNat) (List.take ((x13.2.1).toNat) s)) b35 pos (by kernel_rfl) o_it48 ge_it48 (L_run (.bool false) (by kernel_rfl) (by kernel_rfl) (L_nil (thenQ_normal (W_seq (W_false (by kernel_rfl) (W_exit (thenQ_exit (thenQ_exit (blkQ_exit (thenQ_normal (W_seq (W_seq (W_quiet (by kernel_rfl) (by kernel_rfl) (Lq_mv (Lq_mv ?_)))))))))))))))
            have hz := (r_q5.rd).at (k := 3) (fun _ => rfl) hx14
            obtain ⟨g55, off56, hl57, hc58⟩ := hz
            refine Lq_ixaddr (k := .i64) q5 i _ g55 off56 el86 hl57 (by first | omega | (simp only [List.length_drop, List.length_take]; omega)) (by kernel_rfl) (by kernel_rfl) (Lq_run (.pointer (some ⟨g55, ((off56 + i * 3) + 1), none⟩)) (fun _ => by kernel_rfl) (Lq_load g55 ((off56 + i * 3) + 1) (.int .i64 x13.2.1) (by kernel_rfl) (fun _ => by kernel_rfl) (hc58 1 _ rfl) (Lq_mv (Lq_mv ?_))))
            have hz := (r_q5.rd).at (k := 3) (fun _ => rfl) hx14
            obtain ⟨g61, off62, hl63, hc64⟩ := hz
            refine Lq_ixaddr (k := .i64) q5 i _ g61 off62 el86 hl63 (by first | omega | (simp only [List.length_drop, List.length_take]; omega)) (by kernel_rfl) (by kernel_rfl) (Lq_run (.pointer (some ⟨g61, (off62 + i * 3), none⟩)) (fun _ => by kernel_rfl) (Lq_load g61 (off62 + i * 3) (.int .i64 x13.1) (by kernel_rfl) (fun _ => by kernel_rfl) (hc64 0 _ rfl) (Lq_cmp .i64 x13.2.1 x13.1 (x13.1 < x13.2.1) rfl (cmp_gt x13.2.1 x13.1) (by kernel_rfl) (by kernel_rfl) ?_ ?_)))
            · intro h65
              replace h65 : x13.1 < x13.2.1 := by omega
              refine Lq_mv (Lq_want (by kernel_rfl) (Lq_mv (Lq_want (by kernel_rfl) (Lq_mv (Lq_want (by kernel_rfl) (Lq_mv (Lq_want (by kernel_rfl) ?_)))))))
              have hz := (r_q5.rd).at (k := 3) (fun _ => rfl) hx14
              obtain ⟨g68, off69, hl70, hc71⟩ := hz
              refine Lq_ixaddr (k := .i64) q5 i _ g68 off69 el86 hl70 (by first | omega | (simp only [List.length_drop, List.length_take]; omega)) (by kernel_rfl) (by kernel_rfl) (Lq_want (by kernel_rfl) (Lq_run (.pointer (some ⟨g68, ((off69 + i * 3) + 1), none⟩)) (fun _ => by kernel_rfl) (Lq_want (by kernel_rfl) (Lq_load g68 ((off69 + i * 3) + 1) (.int .i64 x13.2.1) (by kernel_rfl) (fun _ => by kernel_rfl) (hc71 1 _ rfl) (Lq_want (by kernel_rfl) (Lq_cmp .i64 b x13.2.1 (x13.2.1 ≤ b) rfl (cmp_ge b x13.2.1) (by kernel_rfl) (by kernel_rfl) ?_ ?_))))))
              · intro h72
                replace h72 : x13.2.1 ≤ b := by omega
                refine Lq_pickT (by kernel_rfl) (Lq_nil ?_)
                intro w73 hB74
                replace hb := hb.trans (hB74.mono hs)
                replace hs := Nat.le_trans hs (hB74.size)
                replace o_it48 := obj_below o_it48 hB74
                replace r_q5 := r_q5.below hB74
                refine thenQ_normal (W_true (by kernel_rfl) (W_region (L_mv (L_addN cn 1 (by omega) (by kernel_rfl) (by kernel_rfl) (L_as (L_nil (thenQ_normal (W_seq (W_region (L_mv (L_addN i 1 (by omega) (by kernel_rfl) (by kernel_rfl) (L_mv (L_as (L_as (L_nil (thenQ_normal (W_ret ?_)))))))))))))))))
                refine end_ret [.tmp 4, .tmp 5] [(.int .i64 (((i + 1) : Nat) : Int)), (.int .i64 (((cn + 1) : Nat) : Int))] rfl hds ⟨by kernel_rfl, by kernel_rfl, trivial⟩ ?_
                have hE : (((((i + 1) : Nat) : Int) : Int) = (whereF s b).1) ∧ (((((cn + 1) : Nat) : Int) : Int) = (whereF s b).2) := ⟨(by first | (rw [where_arg (by omega)]; done) | (rw [whereI_is (by omega) (by omega) i3 (by omega) (by assumption) j3 ge_it48 1 (by omega)]; done) | (rw [whereI_is (by omega) (by omega) i3 (by omega) (by assumption) j3 ge_it48 0 (by omega)]; done) | (rw [whereI_is (by omega) (by omega) i3 (by omega) (by assumption) j3 ge_it48 0 (by omega)]; rfl)), (by first | (rw [where_arg (by omega)]; done) | (rw [whereI_is (by omega) (by omega) i3 (by omega) (by assumption) j3 ge_it48 1 (by omega)]; done) | (rw [whereI_is (by omega) (by omega) i3 (by omega) (by assumption) j3 ge_it48 0 (by omega)]; done) | (rw [whereI_is (by omega) (by omega) i3 (by omega) (by assumption) j3 ge_it48 0 (by omega)]; rfl))⟩
                exact ⟨tup2 (congrArg (Value.int .i64) hE.1) (congrArg (Value.int .i64) hE.2), hb⟩
              · intro h75
                replace h75 : b < x13.2.1 := by omega
                refine Lq_pickT (by kernel_rfl) (Lq_nil ?_)
                intro w76 hB77
                replace hb := hb.trans (hB77.mono hs)
                replace hs := Nat.le_trans hs (hB77.size)
                replace o_it48 := obj_below o_it48 hB77
                replace r_q5 := r_q5.below hB77
                refine thenQ_normal (W_false (by kernel_rfl) (W_skip (thenQ_normal (W_seq (W_region (L_mv (L_addN i 1 (by omega) (by kernel_rfl) (by kernel_rfl) (L_mv (L_as (L_as (L_nil (thenQ_normal (W_ret ?_)))))))))))))
                refine end_ret [.tmp 4, .tmp 5] [(.int .i64 (((i + 1) : Nat) : Int)), (.int .i64 ((cn : Nat) : Int))] rfl hds ⟨by kernel_rfl, by kernel_rfl, trivial⟩ ?_
                have hE : (((((i + 1) : Nat) : Int) : Int) = (whereF s b).1) ∧ ((((cn : Nat) : Int) : Int) = (whereF s b).2) := ⟨(by first | (rw [where_arg (by omega)]; done) | (rw [whereI_is (by omega) (by omega) i3 (by omega) (by assumption) j3 ge_it48 1 (by omega)]; done) | (rw [whereI_is (by omega) (by omega) i3 (by omega) (by assumption) j3 ge_it48 0 (by omega)]; done) | (rw [whereI_is (by omega) (by omega) i3 (by omega) (by assumption) j3 ge_it48 0 (by omega)]; rfl)), (by first | (rw [where_arg (by omega)]; done) | (rw [whereI_is (by omega) (by omega) i3 (by omega) (by assumption) j3 ge_it48 1 (by omega)]; done) | (rw [whereI_is (by omega) (by omega) i3 (by omega) (by assumption) j3 ge_it48 0 (by omega)]; done) | (rw [whereI_is (by omega) (by omega) i3 (by omega) (by assumption) j3 ge_it48 0 (by omega)]; rfl))⟩
                exact ⟨tup2 (congrArg (Value.int .i64) hE.1) (congrArg (Value.int .i64) hE.2), hb⟩
            · intro h78
              replace h78 : x13.2.1 ≤ x13.1 := by omega
              refine Lq_mv (Lq_skip (by kernel_rfl) (Lq_skip (by kernel_rfl) (Lq_skip (by kernel_rfl) (Lq_skip (by kernel_rfl) (Lq_skip (by kernel_rfl) (Lq_skip (by kernel_rfl) (Lq_skip (by kernel_rfl) (Lq_pickF (by kernel_rfl) (Lq_nil ?_)))))))))
              intro w79 hB80
              replace hb := hb.trans (hB80.mono hs)
              replace hs := Nat.le_trans hs (hB80.size)
              replace o_it48 := obj_below o_it48 hB80
              replace r_q5 := r_q5.below hB80
              refine thenQ_normal (W_false (by kernel_rfl) (W_skip (thenQ_normal (W_seq (W_region (L_mv (L_addN i 1 (by omega) (by kernel_rfl) (by kernel_rfl) (L_mv (L_as (L_as (L_nil (thenQ_normal (W_ret ?_)))))))))))))
              refine end_ret [.tmp 4, .tmp 5] [(.int .i64 (((i + 1) : Nat) : Int)), (.int .i64 ((cn : Nat) : Int))] rfl hds ⟨by kernel_rfl, by kernel_rfl, trivial⟩ ?_
              have hE : (((((i + 1) : Nat) : Int) : Int) = (whereF s b).1) ∧ ((((cn : Nat) : Int) : Int) = (whereF s b).2) := ⟨(by first | (rw [where_arg (by omega)]; done) | (rw [whereI_is (by omega) (by omega) i3 (by omega) (by assumption) j3 ge_it48 1 (by omega)]; done) | (rw [whereI_is (by omega) (by omega) i3 (by omega) (by assumption) j3 ge_it48 0 (by omega)]; done) | (rw [whereI_is (by omega) (by omega) i3 (by omega) (by assumption) j3 ge_it48 0 (by omega)]; rfl)), (by first | (rw [where_arg (by omega)]; done) | (rw [whereI_is (by omega) (by omega) i3 (by omega) (by assumption) j3 ge_it48 1 (by omega)]; done) | (rw [whereI_is (by omega) (by omega) i3 (by omega) (by assumption) j3 ge_it48 0 (by omega)]; done) | (rw [whereI_is (by omega) (by omega) i3 (by omega) (by assumption) j3 ge_it48 0 (by omega)]; rfl))⟩
              exact ⟨tup2 (congrArg (Value.int .i64) hE.1) (congrArg (Value.int .i64) hE.2), hb⟩
      · intro h81
        replace h81 : i ≤ 0 := by omega
        refine L_mv (L_skip (by kernel_rfl) (L_skip (by kernel_rfl) (L_skip (by kernel_rfl) (L_skip (by kernel_rfl) (L_skip (by kernel_rfl) (L_skip (by kernel_rfl) (L_skip (by kernel_rfl) (L_pickF (by kernel_rfl) (L_nil (thenQ_normal (W_false (by kernel_rfl) (W_exit (thenQ_exit (thenQ_exit (blkQ_exit (thenQ_normal (W_seq (W_region (L_as (L_nil (thenQ_normal (W_seq (W_seq (W_held 13 (by kernel_rfl) (by kernel_rfl) ?_))))))))))))))))))))))))
        intro w82 hB83
        replace hb := hb.trans (hB83.mono hs)
        replace hs := Nat.le_trans hs (hB83.size)
        replace r_q5 := r_q5.below hB83
        refine ⟨fun w2 => Ch (fun _ => False) w82 w2, ?_⟩
        have hS : Ch (fun _ => False) w82 w82 := Ch.refl _ _
        refine H_take 0 (S s) rfl (by kernel_rfl) (by kernel_rfl) (by kernel_rfl) (noPanic_then (noPanic_then noPanic_end)) hS (by kernel_rfl) (fun _ _ => by kernel_rfl) ?_
        refine H_take 1 q5 rfl (by kernel_rfl) (by kernel_rfl) (by kernel_rfl) (noPanic_then (noPanic_then noPanic_end)) hS (by kernel_rfl) (fun _ _ => by kernel_rfl) ?_
        refine H_take 2 (.int .i64 ((i : Nat) : Int)) rfl (by kernel_rfl) (by kernel_rfl) (by kernel_rfl) (noPanic_then (noPanic_then noPanic_end)) hS (by kernel_rfl) (fun _ _ => by kernel_rfl) ?_
        have hz := get_some (pcsI s) i (by first | omega | (simp only [List.length_drop, List.length_take]; omega)); obtain ⟨x84, hx85⟩ := hz
        have hz := (r_q5.rd).at (k := 3) (fun _ => rfl) hx85
        obtain ⟨g86, off87, hl88, hc89⟩ := hz
        have hpo_x84 := pcsI_ok hx85
        obtain ⟨po1_x84, po2_x84, po3_x84, po4_x84⟩ := hpo_x84
        have hf_x84 := fromI_at hx85
        have hl_x84 : (List.drop x84.1.toNat (List.take x84.2.1.toNat s)).length = (x84.2.1 - x84.1).toNat := by simp only [List.length_drop, List.length_take]; omega
        refine H_take 3 (.pointer (some ⟨g86, (off87 + i * 3), none⟩)) rfl (by kernel_rfl) (by kernel_rfl) (by kernel_rfl) (noPanic_then (noPanic_then noPanic_end)) hS (by kernel_rfl) (R_ixaddr (k := .i64) q5 i _ g86 off87 el86 hl88 (by first | omega | (simp only [List.length_drop, List.length_take]; omega)) (by kernel_rfl) (by kernel_rfl)) ?_
        refine H_take 4 (.pointer (some ⟨g86, (off87 + i * 3), none⟩)) rfl (by kernel_rfl) (by kernel_rfl) (by kernel_rfl) (noPanic_then (noPanic_then noPanic_end)) hS (by kernel_rfl) (fun _ _ => by kernel_rfl) ?_
        refine H_take 5 (.int .i64 x84.1) rfl (by kernel_rfl) (by kernel_rfl) (by kernel_rfl) (noPanic_then (noPanic_then noPanic_end)) hS (by kernel_rfl) (R_load g86 (off87 + i * 3) (.int .i64 x84.1) (by kernel_rfl) (fun _ => by kernel_rfl) (fun w2 h2 => cell_ch (hc89 0 _ rfl) h2 (fun h => h.elim))) ?_
        refine H_take 6 q5 rfl (by kernel_rfl) (by kernel_rfl) (by kernel_rfl) (noPanic_then (noPanic_then noPanic_end)) hS (by kernel_rfl) (fun _ _ => by kernel_rfl) ?_
        refine H_take 7 (.int .i64 ((i : Nat) : Int)) rfl (by kernel_rfl) (by kernel_rfl) (by kernel_rfl) (noPanic_then (noPanic_then noPanic_end)) hS (by kernel_rfl) (fun _ _ => by kernel_rfl) ?_
        have hz := (r_q5.rd).at (k := 3) (fun _ => rfl) hx85
        obtain ⟨g92, off93, hl94, hc95⟩ := hz
        refine H_take 8 (.pointer (some ⟨g92, (off93 + i * 3), none⟩)) rfl (by kernel_rfl) (by kernel_rfl) (by kernel_rfl) (noPanic_then (noPanic_then noPanic_end)) hS (by kernel_rfl) (R_ixaddr (k := .i64) q5 i _ g92 off93 el86 hl94 (by first | omega | (simp only [List.length_drop, List.length_take]; omega)) (by kernel_rfl) (by kernel_rfl)) ?_
        refine H_take 9 (.pointer (some ⟨g92, ((off93 + i * 3) + 1), none⟩)) rfl (by kernel_rfl) (by kernel_rfl) (by kernel_rfl) (noPanic_then (noPanic_then noPanic_end)) hS (by kernel_rfl) (fun _ _ => by kernel_rfl) ?_
        refine H_take 10 (.int .i64 x84.2.1) rfl (by kernel_rfl) (by kernel_rfl) (by kernel_rfl) (noPanic_then (noPanic_then noPanic_end)) hS (by kernel_rfl) (R_load g92 ((off93 + i * 3) + 1) (.int .i64 x84.2.1) (by kernel_rfl) (fun _ => by kernel_rfl) (fun w2 h2 => cell_ch (hc95 1 _ rfl) h2 (fun h => h.elim))) ?_
        refine H_all1 11 (by kernel_rfl) ?_
        refine H_op 11 rfl (by kernel_rfl) plain_slice ?_
        refine L_sslice s ((x84.1).toNat) ((x84.2.1).toNat) Tryd.underlying9 (by kernel_rfl) (toNat_val x84.1 .i64 (by kernel_rfl) (by omega)) (toNat_val x84.2.1 .i64 (by kernel_rfl) (by omega)) (by first | omega | (simp only [List.length_drop, List.length_take]; omega)) (by first | omega | (simp only [List.length_drop, List.length_take]; omega)) (L_nil ?_)
        refine ⟨rfl, hS, ?_⟩
        refine H_all1 12 (by kernel_rfl) ?_
        refine H_op 12 rfl (by kernel_rfl) plain_range ?_
        refine L_range (List.drop ((x84.1).toNat) (List.take ((x84.2.1).toNat) s)) Tryd.underlying9 (by kernel_rfl) ?_
        intro b96 w97 hN98
        have g_it48 : w.heap.size ≤ b96 := by rw [hN98.num]; exact hs
        replace hb := hb.trans (hN98.below.mono hs)
        replace hS := hS.trans2 (Ch.of_below hN98.below) (fun _ h => h.elim)
        replace hs := Nat.le_trans hs (hN98.below.size)
        replace r_q5 := r_q5.below hN98.below
        have o_it48 := hN98.here
        refine L_nil ?_
        refine ⟨rfl, hS, ?_⟩
        refine H_done (by kernel_rfl) ?_
        refine thenQ_normal (W_block ?_)
        refine W_loop (fun m s0 w0 => ∃ (pos : Nat) (cn : Nat), (m = (List.drop ((x84.1).toNat) (List.take ((x84.2.1).toNat) s)).length - pos) ∧ (s0.ds = []) ∧ (s0.f 1 = (.int .i64 b)) ∧ (s0.f 4 = (.int .i64 0)) ∧ (s0.f 5 = (.int .i64 0)) ∧ (s0.f 6 = q5) ∧ (s0.f 7 = (.int .i64 ((i : Nat) : Int))) ∧ (s0.f 48 = (.pointer (some ⟨b96, 0, none⟩))) ∧ (s0.f 8 = (.int .i64 ((cn : Nat) : Int))) ∧ (Row w0 w.heap.size 89 3 encPc q5 (pcsI s)) ∧ (w0.heap[b96]? = some (.stringIter ⟨((List.drop ((x84.1).toNat) (List.take ((x84.2.1).toNat) s))).toArray⟩ pos)) ∧ (Below w.heap.size w w0) ∧ (w.heap.size ≤ w0.heap.size) ∧ (pos ≤ (List.drop ((x84.1).toNat) (List.take ((x84.2.1).toNat) s)).length) ∧ (cn ≤ pos + 1) ∧ (cn + cntA (b - x84.1) (charsFrom (List.drop ((x84.1).toNat) (List.take ((x84.2.1).toNat) s)) pos) = 1 + cntA (b - x84.1) (charsFrom (List.drop ((x84.1).toNat) (List.take ((x84.2.1).toNat) s)) 0))) _ ⟨0, 1, rfl, hds, by kernel_rfl, by kernel_rfl, by kernel_rfl, by kernel_rfl, by kernel_rfl, by kernel_rfl, by kernel_rfl, r_q5, o_it48, hb, hs, (Nat.zero_le _), (Nat.le_refl _), rfl⟩ ?_
        rintro m99 s100 w101 ⟨pos, cn, hm, hds, f_1, f_4, f_5, f_6, f_7, f_48, f_8, r_q5, o_it48, hb, hs, j1, j2, j3⟩
        refine W_set 1 _ f_1 (W_set 4 _ f_4 (W_set 5 _ f_5 (W_set 6 _ f_6 (W_set 7 _ f_7 (W_set 48 _ f_48 (W_set 8 _ f_8 ?_))))))
        clear f_1 f_4 f_5 f_6 f_7 f_48 f_8
        refine W_seq (W_region ?_)
        rcases Nat.lt_or_ge pos ((List.drop ((x84.1).toNat) (List.take ((x84.2.1).toNat) s))).length with lt_it48 | ge_it48
        · refine L_next (List.drop ((x84.1).toNat) (List.take ((x84.2.1).toNat) s)) b96 pos (by kernel_rfl) o_it48 lt_it48 ?_
          intro c_it48 w102 ch_it48 hW103
          replace hb := hb.trans (hW103.below g_it48)
          replace hs := Nat.le_trans hs (Nat.le_of_eq hW103.size.symm)
          have n_r_q5 := r_q5.wrote hW103 (r_q5.ne o_it48 (by simp))
          replace r_q5 := n_r_q5; clear n_r_q5
          replace o_it48 := hW103.here
          have := dec_pos (List.drop ((x84.1).toNat) (List.take ((x84.2.1).toNat) s)) pos; have := dec_fits (List.drop ((x84.1).toNat) (List.take ((x84.2.1).toNat) s)) pos lt_it48; have := dec_le (List.drop ((x84.1).toNat) (List.take ((x84.2.1).toNat) s)) pos
          have c_it48_0 : 0 ≤ c_it48 := by omega
          have c_it48_1 : c_it48 ≤ 2147483647 := by omega
          refine L_run (.bool true) (by kernel_rfl) (by kernel_rfl) (L_nil (thenQ_normal (W_seq (W_true (by kernel_rfl) (W_skip (thenQ_normal (W_block (W_seq (W_region (L_run (.int .i64 ((pos : Nat) : Int)) (by kernel_rfl) (by kernel_rfl) (L_as (L_nil (thenQ_normal (W_seq (W_region (L_mv (L_cmp .i64 ((pos : Nat) : Int) ((0 : Nat) : Int) (0 < pos) rfl (cmpN_gt pos 0) (by kernel_rfl) (by kernel_rfl) ?_ ?_)))))))))))))))))
          · intro h104
            replace h104 : 0 < pos := by omega
            refine L_mv (L_want (by kernel_rfl) (L_mv (L_want (by kernel_rfl) (L_mv (L_want (by kernel_rfl) ?_)))))
            have hz := (r_q5.rd).at (k := 3) (fun _ => rfl) hx85
            obtain ⟨g107, off108, hl109, hc110⟩ := hz
            refine L_ixaddr (k := .i64) q5 i _ g107 off108 el86 hl109 (by first | omega | (simp only [List.length_drop, List.length_take]; omega)) (by kernel_rfl) (by kernel_rfl) (L_want (by kernel_rfl) (L_run (.pointer (some ⟨g107, (off108 + i * 3), none⟩)) (by kernel_rfl) (by kernel_rfl) (L_want (by kernel_rfl) (L_load g107 (off108 + i * 3) (.int .i64 x84.1) (by kernel_rfl) (by kernel_rfl) (hc110 0 _ rfl) (L_want (by kernel_rfl) (L_mv (L_want (by kernel_rfl) (L_arith x84.1 ((pos : Nat) : Int) (x84.1 + ((pos : Nat) : Int)) rfl (by kernel_rfl) (by kernel_rfl) (wrap_i64 _ (by simp only [arithZ]; omega) (by simp only [arithZ]; omega)) (L_want (by kernel_rfl) (L_mv (L_want (by kernel_rfl) (L_cmp .i64 (x84.1 + ((pos : Nat) : Int)) b ((x84.1 + ((pos : Nat) : Int)) ≤ b) rfl (cmp_le (x84.1 + ((pos : Nat) : Int)) b) (by kernel_rfl) (by kernel_rfl) ?_ ?_))))))))))))
            · intro h111
              replace h111 : (x84.1 + ((pos : Nat) : Int)) ≤ b := by omega
              refine L_pickT (by kernel_rfl) (L_nil (thenQ_normal (W_true (by kernel_rfl) (W_region (L_mv (L_addN cn 1 (by omega) (by kernel_rfl) (by kernel_rfl) (L_as (L_nil (blkQ_normal ?_)))))))))
              refine thenQ_normal ⟨_, ?_, (pos + (dec (List.drop ((x84.1).toNat) (List.take ((x84.2.1).toNat) s)) pos).2), (cn + 1), rfl, hds, by kernel_rfl, by kernel_rfl, by kernel_rfl, by kernel_rfl, by kernel_rfl, by kernel_rfl, by kernel_rfl, r_q5, o_it48, hb, hs, ?_, ?_, ?_⟩
              · omega
              · omega
              · omega
              · first | exact cntP_yes lt_it48 (by omega) j3 | exact cntP_no lt_it48 (by omega) j3
            · intro h112
              replace h112 : b < (x84.1 + ((pos : Nat) : Int)) := by omega
              refine L_pickT (by kernel_rfl) (L_nil (thenQ_normal (W_false (by kernel_rfl) (W_skip (blkQ_normal ?_)))))
              refine thenQ_normal ⟨_, ?_, (pos + (dec (List.drop ((x84.1).toNat) (List.take ((x84.2.1).toNat) s)) pos).2), cn, rfl, hds, by kernel_rfl, by kernel_rfl, by kernel_rfl, by kernel_rfl, by kernel_rfl, by kernel_rfl, by kernel_rfl, r_q5, o_it48, hb, hs, ?_, ?_, ?_⟩
              · omega
              · omega
              · omega
              · first | exact cntP_yes lt_it48 (by omega) j3 | exact cntP_no lt_it48 (by omega) j3
          · intro h113
            replace h113 : pos ≤ 0 := by omega
            refine L_mv (L_skip (by kernel_rfl) (L_skip (by kernel_rfl) (L_skip (by kernel_rfl) (L_skip (by kernel_rfl) (L_skip (by kernel_rfl) (L_skip (by kernel_rfl) (L_skip (by kernel_rfl) (L_skip (by kernel_rfl) (L_skip (by kernel_rfl) (L_pickF (by kernel_rfl) (L_nil (thenQ_normal (W_false (by kernel_rfl) (W_skip (blkQ_normal ?_)))))))))))))))
            refine thenQ_normal ⟨_, ?_, (pos + (dec (List.drop ((x84.1).toNat) (List.take ((x84.2.1).toNat) s)) pos).2), cn, rfl, hds, by kernel_rfl, by kernel_rfl, by kernel_rfl, by kernel_rfl, by kernel_rfl, by kernel_rfl, by kernel_rfl, r_q5, o_it48, hb, hs, ?_, ?_, ?_⟩
            · omega
            · omega
            · omega
            · first | exact cntP_yes lt_it48 (by omega) j3 | exact cntP_no lt_it48 (by omega) j3
        · refine L_nextEnd (List.drop ((x84.1).toNat) (List.take ((x84.2.1).toNat) s)) b96 pos (by kernel_rfl) o_it48 ge_it48 (L_run (.bool false) (by kernel_rfl) (by kernel_rfl) (L_nil (thenQ_normal (W_seq (W_false (by kernel_rfl) (W_exit (thenQ_exit (thenQ_exit (blkQ_exit (thenQ_normal (W_seq (W_seq (W_quiet (by kernel_rfl) (by kernel_rfl) (Lq_mv (Lq_mv ?_)))))))))))))))
          have hz := (r_q5.rd).at (k := 3) (fun _ => rfl) hx85
          obtain ⟨g116, off117, hl118, hc119⟩ := hz
          refine Lq_ixaddr (k := .i64) q5 i _ g116 off117 el86 hl118 (by first | omega | (simp only [List.length_drop, List.length_take]; omega)) (by kernel_rfl) (by kernel_rfl) (Lq_run (.pointer (some ⟨g116, ((off117 + i * 3) + 1), none⟩)) (fun _ => by kernel_rfl) (Lq_load g116 ((off117 + i * 3) + 1) (.int .i64 x84.2.1) (by kernel_rfl) (fun _ => by kernel_rfl) (hc119 1 _ rfl) (Lq_mv (Lq_mv ?_))))
          have hz := (r_q5.rd).at (k := 3) (fun _ => rfl) hx85
          obtain ⟨g122, off123, hl124, hc125⟩ := hz
          refine Lq_ixaddr (k := .i64) q5 i _ g122 off123 el86 hl124 (by first | omega | (simp only [List.length_drop, List.length_take]; omega)) (by kernel_rfl) (by kernel_rfl) (Lq_run (.pointer (some ⟨g122, (off123 + i * 3), none⟩)) (fun _ => by kernel_rfl) (Lq_load g122 (off123 + i * 3) (.int .i64 x84.1) (by kernel_rfl) (fun _ => by kernel_rfl) (hc125 0 _ rfl) (Lq_cmp .i64 x84.2.1 x84.1 (x84.1 < x84.2.1) rfl (cmp_gt x84.2.1 x84.1) (by kernel_rfl) (by kernel_rfl) ?_ ?_)))
          · intro h126
            replace h126 : x84.1 < x84.2.1 := by omega
            refine Lq_mv (Lq_want (by kernel_rfl) (Lq_mv (Lq_want (by kernel_rfl) (Lq_mv (Lq_want (by kernel_rfl) (Lq_mv (Lq_want (by kernel_rfl) ?_)))))))
            have hz := (r_q5.rd).at (k := 3) (fun _ => rfl) hx85
            obtain ⟨g129, off130, hl131, hc132⟩ := hz
            refine Lq_ixaddr (k := .i64) q5 i _ g129 off130 el86 hl131 (by first | omega | (simp only [List.length_drop, List.length_take]; omega)) (by kernel_rfl) (by kernel_rfl) (Lq_want (by kernel_rfl) (Lq_run (.pointer (some ⟨g129, ((off130 + i * 3) + 1), none⟩)) (fun _ => by kernel_rfl) (Lq_want (by kernel_rfl) (Lq_load g129 ((off130 + i * 3) + 1) (.int .i64 x84.2.1) (by kernel_rfl) (fun _ => by kernel_rfl) (hc132 1 _ rfl) (Lq_want (by kernel_rfl) (Lq_cmp .i64 b x84.2.1 (x84.2.1 ≤ b) rfl (cmp_ge b x84.2.1) (by kernel_rfl) (by kernel_rfl) ?_ ?_))))))
            · intro h133
              replace h133 : x84.2.1 ≤ b := by omega
              refine Lq_pickT (by kernel_rfl) (Lq_nil ?_)
              intro w134 hB135
              replace hb := hb.trans (hB135.mono hs)
              replace hs := Nat.le_trans hs (hB135.size)
              replace o_it48 := obj_below o_it48 hB135
              replace r_q5 := r_q5.below hB135
              refine thenQ_normal (W_true (by kernel_rfl) (W_region (L_mv (L_addN cn 1 (by omega) (by kernel_rfl) (by kernel_rfl) (L_as (L_nil (thenQ_normal (W_seq (W_region (L_mv (L_addN i 1 (by omega) (by kernel_rfl) (by kernel_rfl) (L_mv (L_as (L_as (L_nil (thenQ_normal (W_ret ?_)))))))))))))))))
              refine end_ret [.tmp 4, .tmp 5] [(.int .i64 (((i + 1) : Nat) : Int)), (.int .i64 (((cn + 1) : Nat) : Int))] rfl hds ⟨by kernel_rfl, by kernel_rfl, trivial⟩ ?_
              have hE : (((((i + 1) : Nat) : Int) : Int) = (whereF s b).1) ∧ (((((cn + 1) : Nat) : Int) : Int) = (whereF s b).2) := ⟨(by first | (rw [where_arg (by omega)]; done) | (rw [whereI_is (by omega) (by omega) i3 (by omega) (by assumption) j3 ge_it48 1 (by omega)]; done) | (rw [whereI_is (by omega) (by omega) i3 (by omega) (by assumption) j3 ge_it48 0 (by omega)]; done) | (rw [whereI_is (by omega) (by omega) i3 (by omega) (by assumption) j3 ge_it48 0 (by omega)]; rfl)), (by first | (rw [where_arg (by omega)]; done) | (rw [whereI_is (by omega) (by omega) i3 (by omega) (by assumption) j3 ge_it48 1 (by omega)]; done) | (rw [whereI_is (by omega) (by omega) i3 (by omega) (by assumption) j3 ge_it48 0 (by omega)]; done) | (rw [whereI_is (by omega) (by omega) i3 (by omega) (by assumption) j3 ge_it48 0 (by omega)]; rfl))⟩
              exact ⟨tup2 (congrArg (Value.int .i64) hE.1) (congrArg (Value.int .i64) hE.2), hb⟩
            · intro h136
              replace h136 : b < x84.2.1 := by omega
              refine Lq_pickT (by kernel_rfl) (Lq_nil ?_)
              intro w137 hB138
              replace hb := hb.trans (hB138.mono hs)
              replace hs := Nat.le_trans hs (hB138.size)
              replace o_it48 := obj_below o_it48 hB138
              replace r_q5 := r_q5.below hB138
              refine thenQ_normal (W_false (by kernel_rfl) (W_skip (thenQ_normal (W_seq (W_region (L_mv (L_addN i 1 (by omega) (by kernel_rfl) (by kernel_rfl) (L_mv (L_as (L_as (L_nil (thenQ_normal (W_ret ?_)))))))))))))
              refine end_ret [.tmp 4, .tmp 5] [(.int .i64 (((i + 1) : Nat) : Int)), (.int .i64 ((cn : Nat) : Int))] rfl hds ⟨by kernel_rfl, by kernel_rfl, trivial⟩ ?_
              have hE : (((((i + 1) : Nat) : Int) : Int) = (whereF s b).1) ∧ ((((cn : Nat) : Int) : Int) = (whereF s b).2) := ⟨(by first | (rw [where_arg (by omega)]; done) | (rw [whereI_is (by omega) (by omega) i3 (by omega) (by assumption) j3 ge_it48 1 (by omega)]; done) | (rw [whereI_is (by omega) (by omega) i3 (by omega) (by assumption) j3 ge_it48 0 (by omega)]; done) | (rw [whereI_is (by omega) (by omega) i3 (by omega) (by assumption) j3 ge_it48 0 (by omega)]; rfl)), (by first | (rw [where_arg (by omega)]; done) | (rw [whereI_is (by omega) (by omega) i3 (by omega) (by assumption) j3 ge_it48 1 (by omega)]; done) | (rw [whereI_is (by omega) (by omega) i3 (by omega) (by assumption) j3 ge_it48 0 (by omega)]; done) | (rw [whereI_is (by omega) (by omega) i3 (by omega) (by assumption) j3 ge_it48 0 (by omega)]; rfl))⟩
              exact ⟨tup2 (congrArg (Value.int .i64) hE.1) (congrArg (Value.int .i64) hE.2), hb⟩
          · intro h139
            replace h139 : x84.2.1 ≤ x84.1 := by omega
            refine Lq_mv (Lq_skip (by kernel_rfl) (Lq_skip (by kernel_rfl) (Lq_skip (by kernel_rfl) (Lq_skip (by kernel_rfl) (Lq_skip (by kernel_rfl) (Lq_skip (by kernel_rfl) (Lq_skip (by kernel_rfl) (Lq_pickF (by kernel_rfl) (Lq_nil ?_)))))))))
            intro w140 hB141
            replace hb := hb.trans (hB141.mono hs)
            replace hs := Nat.le_trans hs (hB141.size)
            replace o_it48 := obj_below o_it48 hB141
            replace r_q5 := r_q5.below hB141
            refine thenQ_normal (W_false (by kernel_rfl) (W_skip (thenQ_normal (W_seq (W_region (L_mv (L_addN i 1 (by omega) (by kernel_rfl) (by kernel_rfl) (L_mv (L_as (L_as (L_nil (thenQ_normal (W_ret ?_)))))))))))))
            refine end_ret [.tmp 4, .tmp 5] [(.int .i64 (((i + 1) : Nat) : Int)), (.int .i64 ((cn : Nat) : Int))] rfl hds ⟨by kernel_rfl, by kernel_rfl, trivial⟩ ?_
            have hE : (((((i + 1) : Nat) : Int) : Int) = (whereF s b).1) ∧ ((((cn : Nat) : Int) : Int) = (whereF s b).2) := ⟨(by first | (rw [where_arg (by omega)]; done) | (rw [whereI_is (by omega) (by omega) i3 (by omega) (by assumption) j3 ge_it48 1 (by omega)]; done) | (rw [whereI_is (by omega) (by omega) i3 (by omega) (by assumption) j3 ge_it48 0 (by omega)]; done) | (rw [whereI_is (by omega) (by omega) i3 (by omega) (by assumption) j3 ge_it48 0 (by omega)]; rfl)), (by first | (rw [where_arg (by omega)]; done) | (rw [whereI_is (by omega) (by omega) i3 (by omega) (by assumption) j3 ge_it48 1 (by omega)]; done) | (rw [whereI_is (by omega) (by omega) i3 (by omega) (by assumption) j3 ge_it48 0 (by omega)]; done) | (rw [whereI_is (by omega) (by omega) i3 (by omega) (by assumption) j3 ge_it48 0 (by omega)]; rfl))⟩
            exact ⟨tup2 (congrArg (Value.int .i64) hE.1) (congrArg (Value.int .i64) hE.2), hb⟩

set_option maxHeartbeats 4000000 in
set_option maxRecDepth 100000 in
theorem c_furrowlaw03_LinesWheres (s : List UInt8) (b : Int) (w : World) (hty : w.cell? ⟨0, 0, none⟩ = some (.iface 116 (.agg #[.pointer (some ⟨4, 56, none⟩)]))) (hs : s.length ≤ 1073741824) :
    Calls Tryd.prog 12 #[(S s), (.int .i64 b)] w (Ret fun v w' => v = (.bool true) ∧ Below w.heap.size w w') := by
  refine enter (args := [(S s), (.int .i64 b)]) Tryd.func12 rfl (by kernel_rfl : _ = 32) (by kernel_rfl) ?_
  have hb := Below.refl w.heap.size w
  have hs : w.heap.size ≤ w.heap.size := Nat.le_refl _
  refine W_seq (W_region (L_as (L_nil (thenQ_normal (W_seq (W_region (L_mv (L_mv (L_call 37 [(S s), (.int .i64 b)] (by kernel_rfl) (by kernel_rfl) (c_lines_Where s b _ (by omega)) ?_)))))))))
  rintro _ w1 ⟨rfl, hB2⟩
  replace hb := hb.trans (hB2.mono hs)
  replace hs := Nat.le_trans hs (hB2.size)
  have := pcsI_len s
  refine L_mv (L_run (.int .i64 ((whereF s b).1)) (by kernel_rfl) (by kernel_rfl) (L_run (.int .i64 ((whereF s b).2)) (by kernel_rfl) (by kernel_rfl) (L_as (L_as (L_nil (thenQ_normal (W_seq (W_region (L_mv (L_mv (L_call 38 [(S s), (.int .i64 b)] (by kernel_rfl) (by kernel_rfl) (c_furrowref03_Where s b _ (by omega)) ?_)))))))))))
  rintro _ w4 ⟨rfl, hB5⟩
  replace hb := hb.trans (hB5.mono hs)
  replace hs := Nat.le_trans hs (hB5.size)
  have := ends_len s
  refine L_mv (L_run (.int .i64 ((whereF s b).1)) (by kernel_rfl) (by kernel_rfl) (L_run (.int .i64 ((whereF s b).2)) (by kernel_rfl) (by kernel_rfl) (L_as (L_as (L_nil (thenQ_normal (W_seq (W_region (L_mv (L_mv (L_cmp .i64 ((whereF s b).1) ((whereF s b).1) ((whereF s b).1 = (whereF s b).1) rfl (cmp_eq ((whereF s b).1) ((whereF s b).1)) (by kernel_rfl) (by kernel_rfl) ?_ ?_)))))))))))
  · intro h7
    replace h7 : (whereF s b).1 = (whereF s b).1 := by omega
    refine L_mv (L_want (by kernel_rfl) (L_mv (L_want (by kernel_rfl) (L_mv (L_want (by kernel_rfl) (L_cmp .i64 ((whereF s b).2) ((whereF s b).2) ((whereF s b).2 = (whereF s b).2) rfl (cmp_eq ((whereF s b).2) ((whereF s b).2)) (by kernel_rfl) (by kernel_rfl) ?_ ?_))))))
    · intro h8
      replace h8 : (whereF s b).2 = (whereF s b).2 := by omega
      refine L_pickT (by kernel_rfl) (L_mv (L_want (by kernel_rfl) (L_call 16 [] (by kernel_rfl) (by kernel_rfl) (c_furrowlaw03_awake  _ (gcell_below hty hb)) ?_)))
      rintro _ w9 ⟨rfl, hB10⟩
      replace hb := hb.trans (hB10.mono hs)
      replace hs := Nat.le_trans hs (hB10.size)
      refine L_pickT (by kernel_rfl) (L_as (L_nil (thenQ_normal (W_ret ?_))))
      refine end_ret [.tmp 4] [(.bool true)] rfl rfl ⟨by kernel_rfl, trivial⟩ ?_
      have e0 : true = true := by rfl
      exact ⟨congrArg Value.bool e0, hb⟩
    · intro h12
      replace h12 : (whereF s b).2 ≠ (whereF s b).2 := by omega
      exact (h12 rfl).elim
  · intro h13
    replace h13 : (whereF s b).1 ≠ (whereF s b).1 := by omega
    exact (h13 rfl).elim

end Go.Proofs.YtapndpldphflcaaDoor
