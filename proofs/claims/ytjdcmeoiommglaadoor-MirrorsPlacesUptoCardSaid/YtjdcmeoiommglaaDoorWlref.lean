/- Walks, written by my program walk.py out of the specification lref.py: each theorem says what one function returns and that it leaves memory as it was. -/
import Derived.Test.YtjdcmeoiommglaaDoorPLref
import Derived.Test.YtjdcmeoiommglaaDoorWllines
import Derived.Test.YtjdcmeoiommglaaDoorWlscan
import Derived.Test.YtjdcmeoiommglaaDoorWlread
import Derived.Test.YtjdcmeoiommglaaDoorFKu
import Derived.Test.YtjdcmeoiommglaaDoorProg
import Derived.Tactics2
namespace Go.Proofs.YtjdcmeoiommglaaDoor
open Go Go.RowKit Go.FK
set_option linter.unusedVariables false
set_option linter.unusedSimpArgs false

theorem el79 : Elem Tryd.prog 79 82 4 24 := ⟨Tryd.underlying79, by kernel_rfl, rfl⟩
set_option maxHeartbeats 4000000 in
set_option maxRecDepth 100000 in
theorem c_furrowref03_Chars (s : List UInt8) (w : World) (hs : s.length ≤ 1073741824) :
    Calls Tryd.prog 38 #[(S s)] w (Ret fun v w' => ∃ (q0 : Value), v = q0 ∧ Row w' w.heap.size 82 4 encChar q0 (chF s) ∧ Below w.heap.size w w') := by
  refine enter (args := [(S s)]) Tryd.func38 rfl (by kernel_rfl : _ = 69) (by kernel_rfl) ?_
  have hb := Below.refl w.heap.size w
  have hs : w.heap.size ≤ w.heap.size := Nat.le_refl _
  refine W_seq (W_region (L_as (L_nil (thenQ_normal (W_seq (W_region (L_as (L_nil (thenQ_normal (W_seq (W_seq (W_region (L_mv (L_range s Tryd.underlying9 (by kernel_rfl) ?_))))))))))))))
  intro b1 w2 hN3
  have g_it9 : w.heap.size ≤ b1 := by rw [hN3.num]; exact hs
  replace hb := hb.trans (hN3.below.mono hs)
  replace hs := Nat.le_trans hs (hN3.below.size)
  have o_it9 := hN3.here
  refine L_nil (thenQ_normal (W_block ?_))
  refine W_loop (fun m s0 w0 => ∃ (pos : Nat) (acc : List (Nat × Nat × Int × Bool)) (v_3 : Value), (m = s.length - pos) ∧ (s0.ds = []) ∧ (s0.f 0 = (S s)) ∧ (s0.f 2 = (.slice none 0 0)) ∧ (s0.f 9 = (.pointer (some ⟨b1, 0, none⟩))) ∧ (s0.f 3 = v_3) ∧ (Row w0 w.heap.size 82 4 encChar v_3 acc) ∧ (w0.heap[b1]? = some (.stringIter ⟨(s).toArray⟩ pos)) ∧ (Below w.heap.size w w0) ∧ (w.heap.size ≤ w0.heap.size) ∧ (pos ≤ s.length) ∧ (acc.length ≤ pos) ∧ (acc ++ (charsFrom s pos).map rawC = (charsFrom s 0).map rawC)) _ ⟨0, [], (.slice none 0 0), rfl, by kernel_rfl, by kernel_rfl, by kernel_rfl, by kernel_rfl, by kernel_rfl, Row.nil _ _ _ _ _, o_it9, hb, hs, by omega, Nat.le_refl _, rfl⟩ ?_
  rintro m4 s5 w6 ⟨pos, acc, v_3, hm, hds, f_0, f_2, f_9, f_3, r_3, o_it9, hb, hs, i1, i2, i3⟩
  refine W_set 0 _ f_0 (W_set 2 _ f_2 (W_set 9 _ f_9 (W_set 3 _ f_3 ?_)))
  clear f_0 f_2 f_9 f_3
  refine W_seq (W_region ?_)
  rcases Nat.lt_or_ge pos (s).length with lt_it9 | ge_it9
  · refine L_next s b1 pos (by kernel_rfl) o_it9 lt_it9 ?_
    intro c_it9 w7 ch_it9 hW8
    replace hb := hb.trans (hW8.below g_it9)
    replace hs := Nat.le_trans hs (Nat.le_of_eq hW8.size.symm)
    have n_r_3 := r_3.wrote hW8 (r_3.ne o_it9 (by simp))
    replace r_3 := n_r_3; clear n_r_3
    replace o_it9 := hW8.here
    have := dec_pos s pos; have := dec_fits s pos lt_it9; have := dec_le s pos
    have c_it9_0 : 0 ≤ c_it9 := by omega
    have c_it9_1 : c_it9 ≤ 2147483647 := by omega
    refine L_run (.bool true) (by kernel_rfl) (by kernel_rfl) (L_nil (thenQ_normal (W_seq (W_true (by kernel_rfl) (W_skip (thenQ_normal (W_block (W_seq (W_region (L_run (.int .i64 ((pos : Nat) : Int)) (by kernel_rfl) (by kernel_rfl) (L_run (.int .i32 c_it9) (by kernel_rfl) (by kernel_rfl) (L_as (L_as (L_nil (thenQ_normal (W_region (L_mv (L_mv (L_mv (L_run (Value.agg #[(.int .i64 ((pos : Nat) : Int)), (.int .i64 0), (.int .i32 c_it9), (.bool false)]) (by kernel_rfl) (by kernel_rfl) (L_app el79 w.heap.size v_3 acc (pos, 0, c_it9, false) hs r_3 (by omega) (by kernel_rfl) rfl rfl (by kernel_rfl) rfl (by kernel_rfl) (by kernel_rfl) ?_)))))))))))))))))))))
    intro v9 w10 hr11 hg12 how13
    replace hb := hb.grown hg12 hs (fun k hk => (World.ownsRow.lt r_3 k hk).1)
    replace hs := Nat.le_trans hs (hg12.size)
    have n_o_it9 := obj_grown o_it9 hg12 (r_3.ne o_it9 (by simp))
    replace o_it9 := n_o_it9; clear n_o_it9
    replace r_3 := hr11
    refine L_as (L_nil (blkQ_normal ?_))
    refine thenQ_normal ⟨_, ?_, (pos + (dec s pos).2), (acc ++ [(pos, 0, c_it9, false)]), v9, rfl, hds, by kernel_rfl, by kernel_rfl, by kernel_rfl, by kernel_rfl, r_3, o_it9, hb, hs, ?_, ?_, ?_⟩
    · omega
    · omega
    · simp only [List.length_append, List.length_cons, List.length_nil]; omega
    · exact raw_step lt_it9 ch_it9 i3
  · refine L_nextEnd s b1 pos (by kernel_rfl) o_it9 ge_it9 (L_run (.bool false) (by kernel_rfl) (by kernel_rfl) (L_nil (thenQ_normal (W_seq (W_false (by kernel_rfl) (W_exit (thenQ_exit (thenQ_exit (blkQ_exit (thenQ_normal (W_seq (W_seq (W_region (L_as (L_nil (thenQ_normal (W_block ?_)))))))))))))))))
    refine W_loop (fun m s0 w0 => ∃ (i : Nat) (acc : List (Nat × Nat × Int × Bool)) (v_3 : Value), (m = acc.length - i) ∧ (s0.ds = []) ∧ (s0.f 0 = (S s)) ∧ (s0.f 2 = (.slice none 0 0)) ∧ (s0.f 3 = v_3) ∧ (s0.f 6 = (.int .i64 ((i : Nat) : Int))) ∧ (Row w0 w.heap.size 82 4 encChar v_3 acc) ∧ (w0.heap[b1]? = some (.stringIter ⟨(s).toArray⟩ pos)) ∧ (Below w.heap.size w w0) ∧ (w.heap.size ≤ w0.heap.size) ∧ (i ≤ acc.length) ∧ (acc = ((charsFrom s 0).take i).map fulC ++ ((charsFrom s 0).drop i).map rawC)) _ ⟨0, acc, v_3, rfl, hds, by kernel_rfl, by kernel_rfl, by kernel_rfl, by kernel_rfl, r_3, o_it9, hb, hs, by omega, raw_end ge_it9 i3⟩ ?_
    rintro m14 s15 w16 ⟨i, acc, v_3, hm, hds, f_0, f_2, f_3, f_6, r_3, o_it9, hb, hs, i1, i2⟩
    refine W_set 0 _ f_0 (W_set 2 _ f_2 (W_set 3 _ f_3 (W_set 6 _ f_6 ?_)))
    clear f_0 f_2 f_3 f_6
    have hal := mix_len i2
    have hcl := chars_len s
    refine W_seq (W_seq (W_region (L_mv (L_mv (L_len 79 82 (acc).length v_3 rfl Tryd.underlying79 (r_3.rd).len (by kernel_rfl) (L_cmp .i64 ((i : Nat) : Int) (((acc).length : Nat) : Int) (i < (acc).length) rfl (cmpN_lt i ((acc).length)) (by kernel_rfl) (by kernel_rfl) ?_ ?_))))))
    · intro h17
      replace h17 : i < (acc).length := by omega
      refine L_nil (thenQ_normal (W_true (by kernel_rfl) (W_skip (thenQ_normal (W_seq (W_block (W_seq (W_region (L_mv (L_slen 9 s rfl Tryd.underlying9 (by kernel_rfl) (L_as (L_nil (thenQ_normal (W_seq (W_seq (W_region (L_mv (L_addN i 1 (by omega) (by kernel_rfl) (by kernel_rfl) (L_mv (L_len 79 82 (acc).length v_3 rfl Tryd.underlying79 (r_3.rd).len (by kernel_rfl) (L_cmp .i64 (((i + 1) : Nat) : Int) (((acc).length : Nat) : Int) ((i + 1) < (acc).length) rfl (cmpN_lt (i + 1) ((acc).length)) (by kernel_rfl) (by kernel_rfl) ?_ ?_)))))))))))))))))))))
      · intro h18
        replace h18 : (i + 1) < (acc).length := by omega
        refine L_nil (thenQ_normal (W_true (by kernel_rfl) (W_region (L_mv (L_mv (L_addN i 1 (by omega) (by kernel_rfl) (by kernel_rfl) ?_))))))
        have hz := get_some acc (i + 1) (by first | omega | (simp only [List.length_set]; omega)); obtain ⟨x19, hx20⟩ := hz
        have hz := (r_3.rd).at (k := 4) (fun _ => rfl) hx20
        obtain ⟨g21, off22, hl23, hc24⟩ := hz
        have hz := mix_at i2 hx20 (by omega)
        obtain ⟨c_x19, hc_x19, he_x19, ha_x19, hb_x19⟩ := hz
        have hn_x19 := chars_next hc_x19
        (try (have hq_x19 := hn_x19.2.2.2.1 _ (by assumption)))
        refine L_ixaddr (k := .i64) v_3 (i + 1) _ g21 off22 el79 hl23 (by first | omega | (simp only [List.length_set]; omega)) (by kernel_rfl) (by kernel_rfl) (L_run (.pointer (some ⟨g21, (off22 + (i + 1) * 4), none⟩)) (by kernel_rfl) (by kernel_rfl) (L_load g21 (off22 + (i + 1) * 4) (.int .i64 ((x19.1 : Nat) : Int)) (by kernel_rfl) (by kernel_rfl) (hc24 0 _ rfl) (L_as (L_nil (thenQ_normal (W_seq (W_region (L_mv (L_mv (L_mv (L_mv (L_mv ?_))))))))))))
        have hz := get_some acc i (by first | omega | (simp only [List.length_set]; omega)); obtain ⟨x25, hx26⟩ := hz
        have hz := (r_3.rd).at (k := 4) (fun _ => rfl) hx26
        obtain ⟨g27, off28, hl29, hc30⟩ := hz
        have hz := mix_at i2 hx26 (by omega)
        obtain ⟨c_x25, hc_x25, he_x25, ha_x25, hb_x25⟩ := hz
        have hn_x25 := chars_next hc_x25
        (try (have hq_x25 := hn_x25.2.2.2.1 _ (by assumption)))
        refine L_ixaddr (k := .i64) v_3 i _ g27 off28 el79 hl29 (by first | omega | (simp only [List.length_set]; omega)) (by kernel_rfl) (by kernel_rfl) (L_run (.pointer (some ⟨g27, (off28 + i * 4), none⟩)) (by kernel_rfl) (by kernel_rfl) (L_load g27 (off28 + i * 4) (.int .i64 ((x25.1 : Nat) : Int)) (by kernel_rfl) (by kernel_rfl) (hc30 0 _ rfl) (L_subN x19.1 x25.1 (by omega) (by omega) (by kernel_rfl) (by kernel_rfl) ?_)))
        have hz := (r_3.rd).at (k := 4) (fun _ => rfl) hx26
        obtain ⟨g33, off34, hl35, hc36⟩ := hz
        refine L_ixaddr (k := .i64) v_3 i _ g33 off34 el79 hl35 (by first | omega | (simp only [List.length_set]; omega)) (by kernel_rfl) (by kernel_rfl) (L_run (.pointer (some ⟨g33, ((off34 + i * 4) + 1), none⟩)) (by kernel_rfl) (by kernel_rfl) (L_storeRow i 1 g33 off34 x25 (x25.1, (x19.1 - x25.1), x25.2.2.1, x25.2.2.2) (.int .i64 (((x19.1 - x25.1) : Nat) : Int)) r_3 (fun _ => rfl) hx26 hl35 (by kernel_rfl) (by kernel_rfl) rfl (by kernel_rfl) (by kernel_rfl) rfl ?_))
        intro w37 hr38 hg39
        replace hb := hb.grown hg39 hs (fun k hk => (World.ownsRow.lt r_3 k hk).1)
        replace hs := Nat.le_trans hs (hg39.size)
        have n_o_it9 := obj_grown o_it9 hg39 (r_3.ne o_it9 (by simp))
        replace o_it9 := n_o_it9; clear n_o_it9
        replace r_3 := hr38
        have hx40 : (List.set acc i (x25.1, (x19.1 - x25.1), x25.2.2.1, x25.2.2.2))[i]? = some (x25.1, (x19.1 - x25.1), x25.2.2.1, x25.2.2.2) := set_here hx26
        refine L_nil (thenQ_normal (W_region (L_mv (L_mv (L_mv (L_mv ?_))))))
        have hz := (r_3.rd).at (k := 4) (fun _ => rfl) hx40
        obtain ⟨g43, off44, hl45, hc46⟩ := hz
        refine L_ixaddr (k := .i64) v_3 i _ g43 off44 el79 hl45 (by first | omega | (simp only [List.length_set]; omega)) (by kernel_rfl) (by kernel_rfl) (L_run (.pointer (some ⟨g43, ((off44 + i * 4) + 2), none⟩)) (by kernel_rfl) (by kernel_rfl) (L_load g43 ((off44 + i * 4) + 2) (.int .i32 x25.2.2.1) (by kernel_rfl) (by kernel_rfl) (hc46 2 _ rfl) (L_cmp .i32 x25.2.2.1 65533 (x25.2.2.1 ≠ 65533) rfl (cmp_ne x25.2.2.1 65533) (by kernel_rfl) (by kernel_rfl) ?_ ?_)))
        · intro h47
          replace h47 : x25.2.2.1 ≠ 65533 := by omega
          refine L_mv (L_skip (by kernel_rfl) (L_skip (by kernel_rfl) (L_skip (by kernel_rfl) (L_skip (by kernel_rfl) (L_skip (by kernel_rfl) (L_skip (by kernel_rfl) (L_pickT (by kernel_rfl) ?_)))))))
          have hz := (r_3.rd).at (k := 4) (fun _ => rfl) hx40
          obtain ⟨g50, off51, hl52, hc53⟩ := hz
          refine L_ixaddr (k := .i64) v_3 i _ g50 off51 el79 hl52 (by first | omega | (simp only [List.length_set]; omega)) (by kernel_rfl) (by kernel_rfl) (L_run (.pointer (some ⟨g50, ((off51 + i * 4) + 3), none⟩)) (by kernel_rfl) (by kernel_rfl) (L_storeRow i 3 g50 off51 (x25.1, (x19.1 - x25.1), x25.2.2.1, x25.2.2.2) (x25.1, (x19.1 - x25.1), x25.2.2.1, true) (.bool true) r_3 (fun _ => rfl) hx40 hl52 (by kernel_rfl) (by kernel_rfl) rfl (by kernel_rfl) (by kernel_rfl) rfl ?_))
          intro w54 hr55 hg56
          replace hb := hb.grown hg56 hs (fun k hk => (World.ownsRow.lt r_3 k hk).1)
          replace hs := Nat.le_trans hs (hg56.size)
          have n_o_it9 := obj_grown o_it9 hg56 (r_3.ne o_it9 (by simp))
          replace o_it9 := n_o_it9; clear n_o_it9
          replace r_3 := hr55
          have hx57 : (List.set (List.set acc i (x25.1, (x19.1 - x25.1), x25.2.2.1, x25.2.2.2)) i (x25.1, (x19.1 - x25.1), x25.2.2.1, true))[i]? = some (x25.1, (x19.1 - x25.1), x25.2.2.1, true) := set_here hx40
          refine L_nil (blkQ_normal (thenQ_normal (W_region (L_mv (L_addN i 1 (by omega) (by kernel_rfl) (by kernel_rfl) (L_as (L_nil ?_)))))))
          refine thenQ_normal ⟨_, ?_, (i + 1), (List.set (List.set acc i (x25.1, (x19.1 - x25.1), x25.2.2.1, x25.2.2.2)) i (x25.1, (x19.1 - x25.1), x25.2.2.1, true)), v_3, rfl, hds, by kernel_rfl, by kernel_rfl, by kernel_rfl, by kernel_rfl, r_3, o_it9, hb, hs, ?_, ?_⟩
          · (simp only [List.length_set]; omega)
          · simp only [List.length_set]; omega
          · exact mix_set3 i2 (by assumption) (by first | exact .inl ⟨_, by assumption, rfl⟩ | exact .inr ⟨by omega, rfl⟩) (by first | exact (decide_eq_true (.inl (by assumption))).symm | exact (decide_eq_true (.inr (by omega))).symm | exact (decide_eq_false (by omega)).symm)
        · intro h58
          replace h58 : x25.2.2.1 = 65533 := by omega
          refine L_mv (L_want (by kernel_rfl) (L_mv (L_want (by kernel_rfl) (L_mv (L_want (by kernel_rfl) ?_)))))
          have hz := (r_3.rd).at (k := 4) (fun _ => rfl) hx40
          obtain ⟨g61, off62, hl63, hc64⟩ := hz
          refine L_ixaddr (k := .i64) v_3 i _ g61 off62 el79 hl63 (by first | omega | (simp only [List.length_set]; omega)) (by kernel_rfl) (by kernel_rfl) (L_want (by kernel_rfl) (L_run (.pointer (some ⟨g61, ((off62 + i * 4) + 1), none⟩)) (by kernel_rfl) (by kernel_rfl) (L_want (by kernel_rfl) (L_load g61 ((off62 + i * 4) + 1) (.int .i64 (((x19.1 - x25.1) : Nat) : Int)) (by kernel_rfl) (by kernel_rfl) (hc64 1 _ rfl) (L_want (by kernel_rfl) (L_cmp .i64 (((x19.1 - x25.1) : Nat) : Int) ((3 : Nat) : Int) ((x19.1 - x25.1) = 3) rfl (cmpN_eq (x19.1 - x25.1) 3) (by kernel_rfl) (by kernel_rfl) ?_ ?_))))))
          · intro h65
            replace h65 : (x19.1 - x25.1) = 3 := by omega
            refine L_pickF (by kernel_rfl) ?_
            have hz := (r_3.rd).at (k := 4) (fun _ => rfl) hx40
            obtain ⟨g68, off69, hl70, hc71⟩ := hz
            refine L_ixaddr (k := .i64) v_3 i _ g68 off69 el79 hl70 (by first | omega | (simp only [List.length_set]; omega)) (by kernel_rfl) (by kernel_rfl) (L_run (.pointer (some ⟨g68, ((off69 + i * 4) + 3), none⟩)) (by kernel_rfl) (by kernel_rfl) (L_storeRow i 3 g68 off69 (x25.1, (x19.1 - x25.1), x25.2.2.1, x25.2.2.2) (x25.1, (x19.1 - x25.1), x25.2.2.1, true) (.bool true) r_3 (fun _ => rfl) hx40 hl70 (by kernel_rfl) (by kernel_rfl) rfl (by kernel_rfl) (by kernel_rfl) rfl ?_))
            intro w72 hr73 hg74
            replace hb := hb.grown hg74 hs (fun k hk => (World.ownsRow.lt r_3 k hk).1)
            replace hs := Nat.le_trans hs (hg74.size)
            have n_o_it9 := obj_grown o_it9 hg74 (r_3.ne o_it9 (by simp))
            replace o_it9 := n_o_it9; clear n_o_it9
            replace r_3 := hr73
            have hx75 : (List.set (List.set acc i (x25.1, (x19.1 - x25.1), x25.2.2.1, x25.2.2.2)) i (x25.1, (x19.1 - x25.1), x25.2.2.1, true))[i]? = some (x25.1, (x19.1 - x25.1), x25.2.2.1, true) := set_here hx40
            refine L_nil (blkQ_normal (thenQ_normal (W_region (L_mv (L_addN i 1 (by omega) (by kernel_rfl) (by kernel_rfl) (L_as (L_nil ?_)))))))
            refine thenQ_normal ⟨_, ?_, (i + 1), (List.set (List.set acc i (x25.1, (x19.1 - x25.1), x25.2.2.1, x25.2.2.2)) i (x25.1, (x19.1 - x25.1), x25.2.2.1, true)), v_3, rfl, hds, by kernel_rfl, by kernel_rfl, by kernel_rfl, by kernel_rfl, r_3, o_it9, hb, hs, ?_, ?_⟩
            · (simp only [List.length_set]; omega)
            · simp only [List.length_set]; omega
            · exact mix_set3 i2 (by assumption) (by first | exact .inl ⟨_, by assumption, rfl⟩ | exact .inr ⟨by omega, rfl⟩) (by first | exact (decide_eq_true (.inl (by assumption))).symm | exact (decide_eq_true (.inr (by omega))).symm | exact (decide_eq_false (by omega)).symm)
          · intro h76
            replace h76 : (x19.1 - x25.1) ≠ 3 := by omega
            refine L_pickF (by kernel_rfl) ?_
            have hz := (r_3.rd).at (k := 4) (fun _ => rfl) hx40
            obtain ⟨g79, off80, hl81, hc82⟩ := hz
            refine L_ixaddr (k := .i64) v_3 i _ g79 off80 el79 hl81 (by first | omega | (simp only [List.length_set]; omega)) (by kernel_rfl) (by kernel_rfl) (L_run (.pointer (some ⟨g79, ((off80 + i * 4) + 3), none⟩)) (by kernel_rfl) (by kernel_rfl) (L_storeRow i 3 g79 off80 (x25.1, (x19.1 - x25.1), x25.2.2.1, x25.2.2.2) (x25.1, (x19.1 - x25.1), x25.2.2.1, false) (.bool false) r_3 (fun _ => rfl) hx40 hl81 (by kernel_rfl) (by kernel_rfl) rfl (by kernel_rfl) (by kernel_rfl) rfl ?_))
            intro w83 hr84 hg85
            replace hb := hb.grown hg85 hs (fun k hk => (World.ownsRow.lt r_3 k hk).1)
            replace hs := Nat.le_trans hs (hg85.size)
            have n_o_it9 := obj_grown o_it9 hg85 (r_3.ne o_it9 (by simp))
            replace o_it9 := n_o_it9; clear n_o_it9
            replace r_3 := hr84
            have hx86 : (List.set (List.set acc i (x25.1, (x19.1 - x25.1), x25.2.2.1, x25.2.2.2)) i (x25.1, (x19.1 - x25.1), x25.2.2.1, false))[i]? = some (x25.1, (x19.1 - x25.1), x25.2.2.1, false) := set_here hx40
            refine L_nil (blkQ_normal (thenQ_normal (W_region (L_mv (L_addN i 1 (by omega) (by kernel_rfl) (by kernel_rfl) (L_as (L_nil ?_)))))))
            refine thenQ_normal ⟨_, ?_, (i + 1), (List.set (List.set acc i (x25.1, (x19.1 - x25.1), x25.2.2.1, x25.2.2.2)) i (x25.1, (x19.1 - x25.1), x25.2.2.1, false)), v_3, rfl, hds, by kernel_rfl, by kernel_rfl, by kernel_rfl, by kernel_rfl, r_3, o_it9, hb, hs, ?_, ?_⟩
            · (simp only [List.length_set]; omega)
            · simp only [List.length_set]; omega
            · exact mix_set3 i2 (by assumption) (by first | exact .inl ⟨_, by assumption, rfl⟩ | exact .inr ⟨by omega, rfl⟩) (by first | exact (decide_eq_true (.inl (by assumption))).symm | exact (decide_eq_true (.inr (by omega))).symm | exact (decide_eq_false (by omega)).symm)
      · intro h87
        replace h87 : (acc).length ≤ (i + 1) := by omega
        refine L_nil (thenQ_normal (W_false (by kernel_rfl) (W_skip (thenQ_normal (W_seq (W_region (L_mv (L_mv (L_mv (L_mv (L_mv ?_)))))))))))
        have hz := get_some acc i (by first | omega | (simp only [List.length_set]; omega)); obtain ⟨x88, hx89⟩ := hz
        have hz := (r_3.rd).at (k := 4) (fun _ => rfl) hx89
        obtain ⟨g90, off91, hl92, hc93⟩ := hz
        have hz := mix_at i2 hx89 (by omega)
        obtain ⟨c_x88, hc_x88, he_x88, ha_x88, hb_x88⟩ := hz
        have hn_x88 := chars_next hc_x88
        (try (have hq_x88 := hn_x88.2.2.2.1 _ (by assumption)))
        refine L_ixaddr (k := .i64) v_3 i _ g90 off91 el79 hl92 (by first | omega | (simp only [List.length_set]; omega)) (by kernel_rfl) (by kernel_rfl) (L_run (.pointer (some ⟨g90, (off91 + i * 4), none⟩)) (by kernel_rfl) (by kernel_rfl) (L_load g90 (off91 + i * 4) (.int .i64 ((x88.1 : Nat) : Int)) (by kernel_rfl) (by kernel_rfl) (hc93 0 _ rfl) (L_subN ((s).length) x88.1 (by omega) (by omega) (by kernel_rfl) (by kernel_rfl) ?_)))
        have hz := (r_3.rd).at (k := 4) (fun _ => rfl) hx89
        obtain ⟨g96, off97, hl98, hc99⟩ := hz
        refine L_ixaddr (k := .i64) v_3 i _ g96 off97 el79 hl98 (by first | omega | (simp only [List.length_set]; omega)) (by kernel_rfl) (by kernel_rfl) (L_run (.pointer (some ⟨g96, ((off97 + i * 4) + 1), none⟩)) (by kernel_rfl) (by kernel_rfl) (L_storeRow i 1 g96 off97 x88 (x88.1, ((s).length - x88.1), x88.2.2.1, x88.2.2.2) (.int .i64 ((((s).length - x88.1) : Nat) : Int)) r_3 (fun _ => rfl) hx89 hl98 (by kernel_rfl) (by kernel_rfl) rfl (by kernel_rfl) (by kernel_rfl) rfl ?_))
        intro w100 hr101 hg102
        replace hb := hb.grown hg102 hs (fun k hk => (World.ownsRow.lt r_3 k hk).1)
        replace hs := Nat.le_trans hs (hg102.size)
        have n_o_it9 := obj_grown o_it9 hg102 (r_3.ne o_it9 (by simp))
        replace o_it9 := n_o_it9; clear n_o_it9
        replace r_3 := hr101
        have hx103 : (List.set acc i (x88.1, ((s).length - x88.1), x88.2.2.1, x88.2.2.2))[i]? = some (x88.1, ((s).length - x88.1), x88.2.2.1, x88.2.2.2) := set_here hx89
        refine L_nil (thenQ_normal (W_region (L_mv (L_mv (L_mv (L_mv ?_))))))
        have hz := (r_3.rd).at (k := 4) (fun _ => rfl) hx103
        obtain ⟨g106, off107, hl108, hc109⟩ := hz
        refine L_ixaddr (k := .i64) v_3 i _ g106 off107 el79 hl108 (by first | omega | (simp only [List.length_set]; omega)) (by kernel_rfl) (by kernel_rfl) (L_run (.pointer (some ⟨g106, ((off107 + i * 4) + 2), none⟩)) (by kernel_rfl) (by kernel_rfl) (L_load g106 ((off107 + i * 4) + 2) (.int .i32 x88.2.2.1) (by kernel_rfl) (by kernel_rfl) (hc109 2 _ rfl) (L_cmp .i32 x88.2.2.1 65533 (x88.2.2.1 ≠ 65533) rfl (cmp_ne x88.2.2.1 65533) (by kernel_rfl) (by kernel_rfl) ?_ ?_)))
        · intro h110
          replace h110 : x88.2.2.1 ≠ 65533 := by omega
          refine L_mv (L_skip (by kernel_rfl) (L_skip (by kernel_rfl) (L_skip (by kernel_rfl) (L_skip (by kernel_rfl) (L_skip (by kernel_rfl) (L_skip (by kernel_rfl) (L_pickT (by kernel_rfl) ?_)))))))
          have hz := (r_3.rd).at (k := 4) (fun _ => rfl) hx103
          obtain ⟨g113, off114, hl115, hc116⟩ := hz
          refine L_ixaddr (k := .i64) v_3 i _ g113 off114 el79 hl115 (by first | omega | (simp only [List.length_set]; omega)) (by kernel_rfl) (by kernel_rfl) (L_run (.pointer (some ⟨g113, ((off114 + i * 4) + 3), none⟩)) (by kernel_rfl) (by kernel_rfl) (L_storeRow i 3 g113 off114 (x88.1, ((s).length - x88.1), x88.2.2.1, x88.2.2.2) (x88.1, ((s).length - x88.1), x88.2.2.1, true) (.bool true) r_3 (fun _ => rfl) hx103 hl115 (by kernel_rfl) (by kernel_rfl) rfl (by kernel_rfl) (by kernel_rfl) rfl ?_))
          intro w117 hr118 hg119
          replace hb := hb.grown hg119 hs (fun k hk => (World.ownsRow.lt r_3 k hk).1)
          replace hs := Nat.le_trans hs (hg119.size)
          have n_o_it9 := obj_grown o_it9 hg119 (r_3.ne o_it9 (by simp))
          replace o_it9 := n_o_it9; clear n_o_it9
          replace r_3 := hr118
          have hx120 : (List.set (List.set acc i (x88.1, ((s).length - x88.1), x88.2.2.1, x88.2.2.2)) i (x88.1, ((s).length - x88.1), x88.2.2.1, true))[i]? = some (x88.1, ((s).length - x88.1), x88.2.2.1, true) := set_here hx103
          refine L_nil (blkQ_normal (thenQ_normal (W_region (L_mv (L_addN i 1 (by omega) (by kernel_rfl) (by kernel_rfl) (L_as (L_nil ?_)))))))
          refine thenQ_normal ⟨_, ?_, (i + 1), (List.set (List.set acc i (x88.1, ((s).length - x88.1), x88.2.2.1, x88.2.2.2)) i (x88.1, ((s).length - x88.1), x88.2.2.1, true)), v_3, rfl, hds, by kernel_rfl, by kernel_rfl, by kernel_rfl, by kernel_rfl, r_3, o_it9, hb, hs, ?_, ?_⟩
          · (simp only [List.length_set]; omega)
          · simp only [List.length_set]; omega
          · exact mix_set3 i2 (by assumption) (by first | exact .inl ⟨_, by assumption, rfl⟩ | exact .inr ⟨by omega, rfl⟩) (by first | exact (decide_eq_true (.inl (by assumption))).symm | exact (decide_eq_true (.inr (by omega))).symm | exact (decide_eq_false (by omega)).symm)
        · intro h121
          replace h121 : x88.2.2.1 = 65533 := by omega
          refine L_mv (L_want (by kernel_rfl) (L_mv (L_want (by kernel_rfl) (L_mv (L_want (by kernel_rfl) ?_)))))
          have hz := (r_3.rd).at (k := 4) (fun _ => rfl) hx103
          obtain ⟨g124, off125, hl126, hc127⟩ := hz
          refine L_ixaddr (k := .i64) v_3 i _ g124 off125 el79 hl126 (by first | omega | (simp only [List.length_set]; omega)) (by kernel_rfl) (by kernel_rfl) (L_want (by kernel_rfl) (L_run (.pointer (some ⟨g124, ((off125 + i * 4) + 1), none⟩)) (by kernel_rfl) (by kernel_rfl) (L_want (by kernel_rfl) (L_load g124 ((off125 + i * 4) + 1) (.int .i64 ((((s).length - x88.1) : Nat) : Int)) (by kernel_rfl) (by kernel_rfl) (hc127 1 _ rfl) (L_want (by kernel_rfl) (L_cmp .i64 ((((s).length - x88.1) : Nat) : Int) ((3 : Nat) : Int) (((s).length - x88.1) = 3) rfl (cmpN_eq ((s).length - x88.1) 3) (by kernel_rfl) (by kernel_rfl) ?_ ?_))))))
          · intro h128
            replace h128 : ((s).length - x88.1) = 3 := by omega
            refine L_pickF (by kernel_rfl) ?_
            have hz := (r_3.rd).at (k := 4) (fun _ => rfl) hx103
            obtain ⟨g131, off132, hl133, hc134⟩ := hz
            refine L_ixaddr (k := .i64) v_3 i _ g131 off132 el79 hl133 (by first | omega | (simp only [List.length_set]; omega)) (by kernel_rfl) (by kernel_rfl) (L_run (.pointer (some ⟨g131, ((off132 + i * 4) + 3), none⟩)) (by kernel_rfl) (by kernel_rfl) (L_storeRow i 3 g131 off132 (x88.1, ((s).length - x88.1), x88.2.2.1, x88.2.2.2) (x88.1, ((s).length - x88.1), x88.2.2.1, true) (.bool true) r_3 (fun _ => rfl) hx103 hl133 (by kernel_rfl) (by kernel_rfl) rfl (by kernel_rfl) (by kernel_rfl) rfl ?_))
            intro w135 hr136 hg137
            replace hb := hb.grown hg137 hs (fun k hk => (World.ownsRow.lt r_3 k hk).1)
            replace hs := Nat.le_trans hs (hg137.size)
            have n_o_it9 := obj_grown o_it9 hg137 (r_3.ne o_it9 (by simp))
            replace o_it9 := n_o_it9; clear n_o_it9
            replace r_3 := hr136
            have hx138 : (List.set (List.set acc i (x88.1, ((s).length - x88.1), x88.2.2.1, x88.2.2.2)) i (x88.1, ((s).length - x88.1), x88.2.2.1, true))[i]? = some (x88.1, ((s).length - x88.1), x88.2.2.1, true) := set_here hx103
            refine L_nil (blkQ_normal (thenQ_normal (W_region (L_mv (L_addN i 1 (by omega) (by kernel_rfl) (by kernel_rfl) (L_as (L_nil ?_)))))))
            refine thenQ_normal ⟨_, ?_, (i + 1), (List.set (List.set acc i (x88.1, ((s).length - x88.1), x88.2.2.1, x88.2.2.2)) i (x88.1, ((s).length - x88.1), x88.2.2.1, true)), v_3, rfl, hds, by kernel_rfl, by kernel_rfl, by kernel_rfl, by kernel_rfl, r_3, o_it9, hb, hs, ?_, ?_⟩
            · (simp only [List.length_set]; omega)
            · simp only [List.length_set]; omega
            · exact mix_set3 i2 (by assumption) (by first | exact .inl ⟨_, by assumption, rfl⟩ | exact .inr ⟨by omega, rfl⟩) (by first | exact (decide_eq_true (.inl (by assumption))).symm | exact (decide_eq_true (.inr (by omega))).symm | exact (decide_eq_false (by omega)).symm)
          · intro h139
            replace h139 : ((s).length - x88.1) ≠ 3 := by omega
            refine L_pickF (by kernel_rfl) ?_
            have hz := (r_3.rd).at (k := 4) (fun _ => rfl) hx103
            obtain ⟨g142, off143, hl144, hc145⟩ := hz
            refine L_ixaddr (k := .i64) v_3 i _ g142 off143 el79 hl144 (by first | omega | (simp only [List.length_set]; omega)) (by kernel_rfl) (by kernel_rfl) (L_run (.pointer (some ⟨g142, ((off143 + i * 4) + 3), none⟩)) (by kernel_rfl) (by kernel_rfl) (L_storeRow i 3 g142 off143 (x88.1, ((s).length - x88.1), x88.2.2.1, x88.2.2.2) (x88.1, ((s).length - x88.1), x88.2.2.1, false) (.bool false) r_3 (fun _ => rfl) hx103 hl144 (by kernel_rfl) (by kernel_rfl) rfl (by kernel_rfl) (by kernel_rfl) rfl ?_))
            intro w146 hr147 hg148
            replace hb := hb.grown hg148 hs (fun k hk => (World.ownsRow.lt r_3 k hk).1)
            replace hs := Nat.le_trans hs (hg148.size)
            have n_o_it9 := obj_grown o_it9 hg148 (r_3.ne o_it9 (by simp))
            replace o_it9 := n_o_it9; clear n_o_it9
            replace r_3 := hr147
            have hx149 : (List.set (List.set acc i (x88.1, ((s).length - x88.1), x88.2.2.1, x88.2.2.2)) i (x88.1, ((s).length - x88.1), x88.2.2.1, false))[i]? = some (x88.1, ((s).length - x88.1), x88.2.2.1, false) := set_here hx103
            refine L_nil (blkQ_normal (thenQ_normal (W_region (L_mv (L_addN i 1 (by omega) (by kernel_rfl) (by kernel_rfl) (L_as (L_nil ?_)))))))
            refine thenQ_normal ⟨_, ?_, (i + 1), (List.set (List.set acc i (x88.1, ((s).length - x88.1), x88.2.2.1, x88.2.2.2)) i (x88.1, ((s).length - x88.1), x88.2.2.1, false)), v_3, rfl, hds, by kernel_rfl, by kernel_rfl, by kernel_rfl, by kernel_rfl, r_3, o_it9, hb, hs, ?_, ?_⟩
            · (simp only [List.length_set]; omega)
            · simp only [List.length_set]; omega
            · exact mix_set3 i2 (by assumption) (by first | exact .inl ⟨_, by assumption, rfl⟩ | exact .inr ⟨by omega, rfl⟩) (by first | exact (decide_eq_true (.inl (by assumption))).symm | exact (decide_eq_true (.inr (by omega))).symm | exact (decide_eq_false (by omega)).symm)
    · intro h150
      replace h150 : (acc).length ≤ i := by omega
      refine L_nil (thenQ_normal (W_false (by kernel_rfl) (W_exit (thenQ_exit (thenQ_exit (blkQ_exit (thenQ_normal (W_seq (W_region (L_mv (L_as (L_nil (thenQ_normal (W_ret ?_))))))))))))))
      refine end_ret [.tmp 2] [v_3] rfl hds ⟨by kernel_rfl, trivial⟩ ?_
      have e51 : acc = chF s := by first | exact mix_done i2 (by omega)
      exact ⟨v_3, rfl, r_3.cast e51, hb⟩

end Go.Proofs.YtjdcmeoiommglaaDoor
