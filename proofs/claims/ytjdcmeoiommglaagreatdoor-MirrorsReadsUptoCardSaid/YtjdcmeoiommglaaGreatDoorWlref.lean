/- Walks, written by my program walk.py out of the specification lref.py: each theorem says what one function returns and that it leaves memory as it was. -/
import Derived.Test.YtjdcmeoiommglaaGreatDoorPLref
import Derived.Test.YtjdcmeoiommglaaGreatDoorWllines
import Derived.Test.YtjdcmeoiommglaaGreatDoorWlscan
import Derived.Test.YtjdcmeoiommglaaGreatDoorWlread
import Derived.Test.YtjdcmeoiommglaaGreatDoorFKu
import Derived.Test.YtjdcmeoiommglaaGreatDoorProg
import Derived.Tactics2
namespace Go.Proofs.YtjdcmeoiommglaaGreatDoor
open Go Go.RowKit Go.FK
set_option linter.unusedVariables false
set_option linter.unusedSimpArgs false

theorem el139 : Elem Tryz.prog 139 142 4 24 := ⟨Tryz.underlying139, by kernel_rfl, rfl⟩
theorem el93 : Elem Tryz.prog 93 96 3 24 := ⟨Tryz.underlying93, by kernel_rfl, rfl⟩
set_option maxHeartbeats 4000000 in
set_option maxRecDepth 100000 in
theorem c_furrowref03_Chars (s : List UInt8) (w : World) (hs : s.length ≤ 1073741824) :
    Calls Tryz.prog 63 #[(S s)] w (Ret fun v w' => ∃ (q0 : Value), v = q0 ∧ Row w' w.heap.size 142 4 encChar q0 (chF s) ∧ Below w.heap.size w w') := by
  refine enter (args := [(S s)]) Tryz.func63 rfl (by kernel_rfl : _ = 69) (by kernel_rfl) ?_
  have hb := Below.refl w.heap.size w
  have hs : w.heap.size ≤ w.heap.size := Nat.le_refl _
  refine W_seq (W_region (L_as (L_nil (thenQ_normal (W_seq (W_region (L_as (L_nil (thenQ_normal (W_seq (W_seq (W_region (L_mv (L_range s Tryz.underlying9 (by kernel_rfl) ?_))))))))))))))
  intro b1 w2 hN3
  have g_it9 : w.heap.size ≤ b1 := by rw [hN3.num]; exact hs
  replace hb := hb.trans (hN3.below.mono hs)
  replace hs := Nat.le_trans hs (hN3.below.size)
  have o_it9 := hN3.here
  refine L_nil (thenQ_normal (W_block ?_))
  refine W_loop (fun m s0 w0 => ∃ (pos : Nat) (acc : List (Nat × Nat × Int × Bool)) (v_3 : Value), (m = s.length - pos) ∧ (s0.ds = []) ∧ (s0.f 0 = (S s)) ∧ (s0.f 2 = (.slice none 0 0)) ∧ (s0.f 9 = (.pointer (some ⟨b1, 0, none⟩))) ∧ (s0.f 3 = v_3) ∧ (Row w0 w.heap.size 142 4 encChar v_3 acc) ∧ (w0.heap[b1]? = some (.stringIter ⟨(s).toArray⟩ pos)) ∧ (Below w.heap.size w w0) ∧ (w.heap.size ≤ w0.heap.size) ∧ (pos ≤ s.length) ∧ (acc.length ≤ pos) ∧ (acc ++ (charsFrom s pos).map rawC = (charsFrom s 0).map rawC)) _ ⟨0, [], (.slice none 0 0), rfl, by kernel_rfl, by kernel_rfl, by kernel_rfl, by kernel_rfl, by kernel_rfl, Row.nil _ _ _ _ _, o_it9, hb, hs, by omega, Nat.le_refl _, rfl⟩ ?_
  rintro m4 s5 w6 ⟨pos, acc, v_3, hm, hds, f_0, f_2, f_9, f_3, r_3, o_it9, hb, hs, i1, i2, i3⟩
  refine W_set 0 _ f_0 (W_set 2 _ f_2 (W_set 9 _ f_9 (W_set 3 _ f_3 ?_)))
  clear f_0 f_2 f_9 f_3
  refine W_seq (W_region ?_)
  rcases Nat.lt_or_ge pos (s).length with lt_it9 | ge_it9
  · refine L_next s b1 pos (by kernel_rfl) o_it9 lt_it9 ?_
    intro c_it9 w7 ch_it9 hW8
    replace hb := hb.trans (hW8.below g_it9)
    replace hs := Nat.le_trans hs (Nat.le_of_eq hW8.size.symm)
    have n_r_3 := r_3.wrote hW8 (r_3.ne o_it9 (by simp))
    replace r_3 := n_r_3; clear n_r_3
    replace o_it9 := hW8.here
    have := dec_pos s pos; have := dec_fits s pos lt_it9; have := dec_le s pos
    have c_it9_0 : 0 ≤ c_it9 := by omega
    have c_it9_1 : c_it9 ≤ 2147483647 := by omega
    refine L_run (.bool true) (by kernel_rfl) (by kernel_rfl) (L_nil (thenQ_normal (W_seq (W_true (by kernel_rfl) (W_skip (thenQ_normal (W_block (W_seq (W_region (L_run (.int .i64 ((pos : Nat) : Int)) (by kernel_rfl) (by kernel_rfl) (L_run (.int .i32 c_it9) (by kernel_rfl) (by kernel_rfl) (L_as (L_as (L_nil (thenQ_normal (W_region (L_mv (L_mv (L_mv (L_run (Value.agg #[(.int .i64 ((pos : Nat) : Int)), (.int .i64 0), (.int .i32 c_it9), (.bool false)]) (by kernel_rfl) (by kernel_rfl) (L_app el139 w.heap.size v_3 acc (pos, 0, c_it9, false) hs r_3 (by omega) (by kernel_rfl) rfl rfl (by kernel_rfl) rfl (by kernel_rfl) (by kernel_rfl) ?_)))))))))))))))))))))
    intro v9 w10 hr11 hg12 how13
    replace hb := hb.grown hg12 hs (fun k hk => (World.ownsRow.lt r_3 k hk).1)
    replace hs := Nat.le_trans hs (hg12.size)
    have n_o_it9 := obj_grown o_it9 hg12 (r_3.ne o_it9 (by simp))
    replace o_it9 := n_o_it9; clear n_o_it9
    replace r_3 := hr11
    refine L_as (L_nil (blkQ_normal ?_))
    refine thenQ_normal ⟨_, ?_, (pos + (dec s pos).2), (acc ++ [(pos, 0, c_it9, false)]), v9, rfl, hds, by kernel_rfl, by kernel_rfl, by kernel_rfl, by kernel_rfl, r_3, o_it9, hb, hs, ?_, ?_, ?_⟩
    · omega
    · omega
    · simp only [List.length_append, List.length_cons, List.length_nil]; omega
    · exact raw_step lt_it9 ch_it9 i3
  · refine L_nextEnd s b1 pos (by kernel_rfl) o_it9 ge_it9 (L_run (.bool false) (by kernel_rfl) (by kernel_rfl) (L_nil (thenQ_normal (W_seq (W_false (by kernel_rfl) (W_exit (thenQ_exit (thenQ_exit (blkQ_exit (thenQ_normal (W_seq (W_seq (W_region (L_as (L_nil (thenQ_normal (W_block ?_)))))))))))))))))
    refine W_loop (fun m s0 w0 => ∃ (i : Nat) (acc : List (Nat × Nat × Int × Bool)) (v_3 : Value), (m = acc.length - i) ∧ (s0.ds = []) ∧ (s0.f 0 = (S s)) ∧ (s0.f 2 = (.slice none 0 0)) ∧ (s0.f 3 = v_3) ∧ (s0.f 6 = (.int .i64 ((i : Nat) : Int))) ∧ (Row w0 w.heap.size 142 4 encChar v_3 acc) ∧ (w0.heap[b1]? = some (.stringIter ⟨(s).toArray⟩ pos)) ∧ (Below w.heap.size w w0) ∧ (w.heap.size ≤ w0.heap.size) ∧ (i ≤ acc.length) ∧ (acc = ((charsFrom s 0).take i).map fulC ++ ((charsFrom s 0).drop i).map rawC)) _ ⟨0, acc, v_3, rfl, hds, by kernel_rfl, by kernel_rfl, by kernel_rfl, by kernel_rfl, r_3, o_it9, hb, hs, by omega, raw_end ge_it9 i3⟩ ?_
    rintro m14 s15 w16 ⟨i, acc, v_3, hm, hds, f_0, f_2, f_3, f_6, r_3, o_it9, hb, hs, i1, i2⟩
    refine W_set 0 _ f_0 (W_set 2 _ f_2 (W_set 3 _ f_3 (W_set 6 _ f_6 ?_)))
    clear f_0 f_2 f_3 f_6
    have hal := mix_len i2
    have hcl := chars_len s
    refine W_seq (W_seq (W_region (L_mv (L_mv (L_len 139 142 (acc).length v_3 rfl Tryz.underlying139 (r_3.rd).len (by kernel_rfl) (L_cmp .i64 ((i : Nat) : Int) (((acc).length : Nat) : Int) (i < (acc).length) rfl (cmpN_lt i ((acc).length)) (by kernel_rfl) (by kernel_rfl) ?_ ?_))))))
    · intro h17
      replace h17 : i < (acc).length := by omega
      refine L_nil (thenQ_normal (W_true (by kernel_rfl) (W_skip (thenQ_normal (W_seq (W_block (W_seq (W_region (L_mv (L_slen 9 s rfl Tryz.underlying9 (by kernel_rfl) (L_as (L_nil (thenQ_normal (W_seq (W_seq (W_region (L_mv (L_addN i 1 (by omega) (by kernel_rfl) (by kernel_rfl) (L_mv (L_len 139 142 (acc).length v_3 rfl Tryz.underlying139 (r_3.rd).len (by kernel_rfl) (L_cmp .i64 (((i + 1) : Nat) : Int) (((acc).length : Nat) : Int) ((i + 1) < (acc).length) rfl (cmpN_lt (i + 1) ((acc).length)) (by kernel_rfl) (by kernel_rfl) ?_ ?_)))))))))))))))))))))
      · intro h18
        replace h18 : (i + 1) < (acc).length := by omega
        refine L_nil (thenQ_normal (W_true (by kernel_rfl) (W_region (L_mv (L_mv (L_addN i 1 (by omega) (by kernel_rfl) (by kernel_rfl) ?_))))))
        have hz := get_some acc (i + 1) (by first | omega | (simp only [List.length_set]; omega)); obtain ⟨x19, hx20⟩ := hz
        have hz := (r_3.rd).at (k := 4) (fun _ => rfl) hx20
        obtain ⟨g21, off22, hl23, hc24⟩ := hz
        have hz := mix_at i2 hx20 (by omega)
        obtain ⟨c_x19, hc_x19, he_x19, ha_x19, hb_x19⟩ := hz
        have hn_x19 := chars_next hc_x19
        (try (have hq_x19 := hn_x19.2.2.2.1 _ (by assumption)))
        refine L_ixaddr (k := .i64) v_3 (i + 1) _ g21 off22 el139 hl23 (by first | omega | (simp only [List.length_set]; omega)) (by kernel_rfl) (by kernel_rfl) (L_run (.pointer (some ⟨g21, (off22 + (i + 1) * 4), none⟩)) (by kernel_rfl) (by kernel_rfl) (L_load g21 (off22 + (i + 1) * 4) (.int .i64 ((x19.1 : Nat) : Int)) (by kernel_rfl) (by kernel_rfl) (hc24 0 _ rfl) (L_as (L_nil (thenQ_normal (W_seq (W_region (L_mv (L_mv (L_mv (L_mv (L_mv ?_))))))))))))
        have hz := get_some acc i (by first | omega | (simp only [List.length_set]; omega)); obtain ⟨x25, hx26⟩ := hz
        have hz := (r_3.rd).at (k := 4) (fun _ => rfl) hx26
        obtain ⟨g27, off28, hl29, hc30⟩ := hz
        have hz := mix_at i2 hx26 (by omega)
        obtain ⟨c_x25, hc_x25, he_x25, ha_x25, hb_x25⟩ := hz
        have hn_x25 := chars_next hc_x25
        (try (have hq_x25 := hn_x25.2.2.2.1 _ (by assumption)))
        refine L_ixaddr (k := .i64) v_3 i _ g27 off28 el139 hl29 (by first | omega | (simp only [List.length_set]; omega)) (by kernel_rfl) (by kernel_rfl) (L_run (.pointer (some ⟨g27, (off28 + i * 4), none⟩)) (by kernel_rfl) (by kernel_rfl) (L_load g27 (off28 + i * 4) (.int .i64 ((x25.1 : Nat) : Int)) (by kernel_rfl) (by kernel_rfl) (hc30 0 _ rfl) (L_subN x19.1 x25.1 (by omega) (by omega) (by kernel_rfl) (by kernel_rfl) ?_)))
        have hz := (r_3.rd).at (k := 4) (fun _ => rfl) hx26
        obtain ⟨g33, off34, hl35, hc36⟩ := hz
        refine L_ixaddr (k := .i64) v_3 i _ g33 off34 el139 hl35 (by first | omega | (simp only [List.length_set]; omega)) (by kernel_rfl) (by kernel_rfl) (L_run (.pointer (some ⟨g33, ((off34 + i * 4) + 1), none⟩)) (by kernel_rfl) (by kernel_rfl) (L_storeRow i 1 g33 off34 x25 (x25.1, (x19.1 - x25.1), x25.2.2.1, x25.2.2.2) (.int .i64 (((x19.1 - x25.1) : Nat) : Int)) r_3 (fun _ => rfl) hx26 hl35 (by kernel_rfl) (by kernel_rfl) rfl (by kernel_rfl) (by kernel_rfl) rfl ?_))
        intro w37 hr38 hg39
        replace hb := hb.grown hg39 hs (fun k hk => (World.ownsRow.lt r_3 k hk).1)
        replace hs := Nat.le_trans hs (hg39.size)
        have n_o_it9 := obj_grown o_it9 hg39 (r_3.ne o_it9 (by simp))
        replace o_it9 := n_o_it9; clear n_o_it9
        replace r_3 := hr38
        have hx40 : (List.set acc i (x25.1, (x19.1 - x25.1), x25.2.2.1, x25.2.2.2))[i]? = some (x25.1, (x19.1 - x25.1), x25.2.2.1, x25.2.2.2) := set_here hx26
        refine L_nil (thenQ_normal (W_region (L_mv (L_mv (L_mv (L_mv ?_))))))
        have hz := (r_3.rd).at (k := 4) (fun _ => rfl) hx40
        obtain ⟨g43, off44, hl45, hc46⟩ := hz
        refine L_ixaddr (k := .i64) v_3 i _ g43 off44 el139 hl45 (by first | omega | (simp only [List.length_set]; omega)) (by kernel_rfl) (by kernel_rfl) (L_run (.pointer (some ⟨g43, ((off44 + i * 4) + 2), none⟩)) (by kernel_rfl) (by kernel_rfl) (L_load g43 ((off44 + i * 4) + 2) (.int .i32 x25.2.2.1) (by kernel_rfl) (by kernel_rfl) (hc46 2 _ rfl) (L_cmp .i32 x25.2.2.1 65533 (x25.2.2.1 ≠ 65533) rfl (cmp_ne x25.2.2.1 65533) (by kernel_rfl) (by kernel_rfl) ?_ ?_)))
        · intro h47
          replace h47 : x25.2.2.1 ≠ 65533 := by omega
          refine L_mv (L_skip (by kernel_rfl) (L_skip (by kernel_rfl) (L_skip (by kernel_rfl) (L_skip (by kernel_rfl) (L_skip (by kernel_rfl) (L_skip (by kernel_rfl) (L_pickT (by kernel_rfl) ?_)))))))
          have hz := (r_3.rd).at (k := 4) (fun _ => rfl) hx40
          obtain ⟨g50, off51, hl52, hc53⟩ := hz
          refine L_ixaddr (k := .i64) v_3 i _ g50 off51 el139 hl52 (by first | omega | (simp only [List.length_set]; omega)) (by kernel_rfl) (by kernel_rfl) (L_run (.pointer (some ⟨g50, ((off51 + i * 4) + 3), none⟩)) (by kernel_rfl) (by kernel_rfl) (L_storeRow i 3 g50 off51 (x25.1, (x19.1 - x25.1), x25.2.2.1, x25.2.2.2) (x25.1, (x19.1 - x25.1), x25.2.2.1, true) (.bool true) r_3 (fun _ => rfl) hx40 hl52 (by kernel_rfl) (by kernel_rfl) rfl (by kernel_rfl) (by kernel_rfl) rfl ?_))
          intro w54 hr55 hg56
          replace hb := hb.grown hg56 hs (fun k hk => (World.ownsRow.lt r_3 k hk).1)
          replace hs := Nat.le_trans hs (hg56.size)
          have n_o_it9 := obj_grown o_it9 hg56 (r_3.ne o_it9 (by simp))
          replace o_it9 := n_o_it9; clear n_o_it9
          replace r_3 := hr55
          have hx57 : (List.set (List.set acc i (x25.1, (x19.1 - x25.1), x25.2.2.1, x25.2.2.2)) i (x25.1, (x19.1 - x25.1), x25.2.2.1, true))[i]? = some (x25.1, (x19.1 - x25.1), x25.2.2.1, true) := set_here hx40
          refine L_nil (blkQ_normal (thenQ_normal (W_region (L_mv (L_addN i 1 (by omega) (by kernel_rfl) (by kernel_rfl) (L_as (L_nil ?_)))))))
          refine thenQ_normal ⟨_, ?_, (i + 1), (List.set (List.set acc i (x25.1, (x19.1 - x25.1), x25.2.2.1, x25.2.2.2)) i (x25.1, (x19.1 - x25.1), x25.2.2.1, true)), v_3, rfl, hds, by kernel_rfl, by kernel_rfl, by kernel_rfl, by kernel_rfl, r_3, o_it9, hb, hs, ?_, ?_⟩
          · (simp only [List.length_set]; omega)
          · simp only [List.length_set]; omega
          · exact mix_set3 i2 (by assumption) (by first | exact .inl ⟨_, by assumption, rfl⟩ | exact .inr ⟨by omega, rfl⟩) (by first | exact (decide_eq_true (.inl (by assumption))).symm | exact (decide_eq_true (.inr (by omega))).symm | exact (decide_eq_false (by omega)).symm)
        · intro h58
          replace h58 : x25.2.2.1 = 65533 := by omega
          refine L_mv (L_want (by kernel_rfl) (L_mv (L_want (by kernel_rfl) (L_mv (L_want (by kernel_rfl) ?_)))))
          have hz := (r_3.rd).at (k := 4) (fun _ => rfl) hx40
          obtain ⟨g61, off62, hl63, hc64⟩ := hz
          refine L_ixaddr (k := .i64) v_3 i _ g61 off62 el139 hl63 (by first | omega | (simp only [List.length_set]; omega)) (by kernel_rfl) (by kernel_rfl) (L_want (by kernel_rfl) (L_run (.pointer (some ⟨g61, ((off62 + i * 4) + 1), none⟩)) (by kernel_rfl) (by kernel_rfl) (L_want (by kernel_rfl) (L_load g61 ((off62 + i * 4) + 1) (.int .i64 (((x19.1 - x25.1) : Nat) : Int)) (by kernel_rfl) (by kernel_rfl) (hc64 1 _ rfl) (L_want (by kernel_rfl) (L_cmp .i64 (((x19.1 - x25.1) : Nat) : Int) ((3 : Nat) : Int) ((x19.1 - x25.1) = 3) rfl (cmpN_eq (x19.1 - x25.1) 3) (by kernel_rfl) (by kernel_rfl) ?_ ?_))))))
          · intro h65
            replace h65 : (x19.1 - x25.1) = 3 := by omega
            refine L_pickF (by kernel_rfl) ?_
            have hz := (r_3.rd).at (k := 4) (fun _ => rfl) hx40
            obtain ⟨g68, off69, hl70, hc71⟩ := hz
            refine L_ixaddr (k := .i64) v_3 i _ g68 off69 el139 hl70 (by first | omega | (simp only [List.length_set]; omega)) (by kernel_rfl) (by kernel_rfl) (L_run (.pointer (some ⟨g68, ((off69 + i * 4) + 3), none⟩)) (by kernel_rfl) (by kernel_rfl) (L_storeRow i 3 g68 off69 (x25.1, (x19.1 - x25.1), x25.2.2.1, x25.2.2.2) (x25.1, (x19.1 - x25.1), x25.2.2.1, true) (.bool true) r_3 (fun _ => rfl) hx40 hl70 (by kernel_rfl) (by kernel_rfl) rfl (by kernel_rfl) (by kernel_rfl) rfl ?_))
            intro w72 hr73 hg74
            replace hb := hb.grown hg74 hs (fun k hk => (World.ownsRow.lt r_3 k hk).1)
            replace hs := Nat.le_trans hs (hg74.size)
            have n_o_it9 := obj_grown o_it9 hg74 (r_3.ne o_it9 (by simp))
            replace o_it9 := n_o_it9; clear n_o_it9
            replace r_3 := hr73
            have hx75 : (List.set (List.set acc i (x25.1, (x19.1 - x25.1), x25.2.2.1, x25.2.2.2)) i (x25.1, (x19.1 - x25.1), x25.2.2.1, true))[i]? = some (x25.1, (x19.1 - x25.1), x25.2.2.1, true) := set_here hx40
            refine L_nil (blkQ_normal (thenQ_normal (W_region (L_mv (L_addN i 1 (by omega) (by kernel_rfl) (by kernel_rfl) (L_as (L_nil ?_)))))))
            refine thenQ_normal ⟨_, ?_, (i + 1), (List.set (List.set acc i (x25.1, (x19.1 - x25.1), x25.2.2.1, x25.2.2.2)) i (x25.1, (x19.1 - x25.1), x25.2.2.1, true)), v_3, rfl, hds, by kernel_rfl, by kernel_rfl, by kernel_rfl, by kernel_rfl, r_3, o_it9, hb, hs, ?_, ?_⟩
            · (simp only [List.length_set]; omega)
            · simp only [List.length_set]; omega
            · exact mix_set3 i2 (by assumption) (by first | exact .inl ⟨_, by assumption, rfl⟩ | exact .inr ⟨by omega, rfl⟩) (by first | exact (decide_eq_true (.inl (by assumption))).symm | exact (decide_eq_true (.inr (by omega))).symm | exact (decide_eq_false (by omega)).symm)
          · intro h76
            replace h76 : (x19.1 - x25.1) ≠ 3 := by omega
            refine L_pickF (by kernel_rfl) ?_
            have hz := (r_3.rd).at (k := 4) (fun _ => rfl) hx40
            obtain ⟨g79, off80, hl81, hc82⟩ := hz
            refine L_ixaddr (k := .i64) v_3 i _ g79 off80 el139 hl81 (by first | omega | (simp only [List.length_set]; omega)) (by kernel_rfl) (by kernel_rfl) (L_run (.pointer (some ⟨g79, ((off80 + i * 4) + 3), none⟩)) (by kernel_rfl) (by kernel_rfl) (L_storeRow i 3 g79 off80 (x25.1, (x19.1 - x25.1), x25.2.2.1, x25.2.2.2) (x25.1, (x19.1 - x25.1), x25.2.2.1, false) (.bool false) r_3 (fun _ => rfl) hx40 hl81 (by kernel_rfl) (by kernel_rfl) rfl (by kernel_rfl) (by kernel_rfl) rfl ?_))
            intro w83 hr84 hg85
            replace hb := hb.grown hg85 hs (fun k hk => (World.ownsRow.lt r_3 k hk).1)
            replace hs := Nat.le_trans hs (hg85.size)
            have n_o_it9 := obj_grown o_it9 hg85 (r_3.ne o_it9 (by simp))
            replace o_it9 := n_o_it9; clear n_o_it9
            replace r_3 := hr84
            have hx86 : (List.set (List.set acc i (x25.1, (x19.1 - x25.1), x25.2.2.1, x25.2.2.2)) i (x25.1, (x19.1 - x25.1), x25.2.2.1, false))[i]? = some (x25.1, (x19.1 - x25.1), x25.2.2.1, false) := set_here hx40
            refine L_nil (blkQ_normal (thenQ_normal (W_region (L_mv (L_addN i 1 (by omega) (by kernel_rfl) (by kernel_rfl) (L_as (L_nil ?_)))))))
            refine thenQ_normal ⟨_, ?_, (i + 1), (List.set (List.set acc i (x25.1, (x19.1 - x25.1), x25.2.2.1, x25.2.2.2)) i (x25.1, (x19.1 - x25.1), x25.2.2.1, false)), v_3, rfl, hds, by kernel_rfl, by kernel_rfl, by kernel_rfl, by kernel_rfl, r_3, o_it9, hb, hs, ?_, ?_⟩
            · (simp only [List.length_set]; omega)
            · simp only [List.length_set]; omega
            · exact mix_set3 i2 (by assumption) (by first | exact .inl ⟨_, by assumption, rfl⟩ | exact .inr ⟨by omega, rfl⟩) (by first | exact (decide_eq_true (.inl (by assumption))).symm | exact (decide_eq_true (.inr (by omega))).symm | exact (decide_eq_false (by omega)).symm)
      · intro h87
        replace h87 : (acc).length ≤ (i + 1) := by omega
        refine L_nil (thenQ_normal (W_false (by kernel_rfl) (W_skip (thenQ_normal (W_seq (W_region (L_mv (L_mv (L_mv (L_mv (L_mv ?_)))))))))))
        have hz := get_some acc i (by first | omega | (simp only [List.length_set]; omega)); obtain ⟨x88, hx89⟩ := hz
        have hz := (r_3.rd).at (k := 4) (fun _ => rfl) hx89
        obtain ⟨g90, off91, hl92, hc93⟩ := hz
        have hz := mix_at i2 hx89 (by omega)
        obtain ⟨c_x88, hc_x88, he_x88, ha_x88, hb_x88⟩ := hz
        have hn_x88 := chars_next hc_x88
        (try (have hq_x88 := hn_x88.2.2.2.1 _ (by assumption)))
        refine L_ixaddr (k := .i64) v_3 i _ g90 off91 el139 hl92 (by first | omega | (simp only [List.length_set]; omega)) (by kernel_rfl) (by kernel_rfl) (L_run (.pointer (some ⟨g90, (off91 + i * 4), none⟩)) (by kernel_rfl) (by kernel_rfl) (L_load g90 (off91 + i * 4) (.int .i64 ((x88.1 : Nat) : Int)) (by kernel_rfl) (by kernel_rfl) (hc93 0 _ rfl) (L_subN ((s).length) x88.1 (by omega) (by omega) (by kernel_rfl) (by kernel_rfl) ?_)))
        have hz := (r_3.rd).at (k := 4) (fun _ => rfl) hx89
        obtain ⟨g96, off97, hl98, hc99⟩ := hz
        refine L_ixaddr (k := .i64) v_3 i _ g96 off97 el139 hl98 (by first | omega | (simp only [List.length_set]; omega)) (by kernel_rfl) (by kernel_rfl) (L_run (.pointer (some ⟨g96, ((off97 + i * 4) + 1), none⟩)) (by kernel_rfl) (by kernel_rfl) (L_storeRow i 1 g96 off97 x88 (x88.1, ((s).length - x88.1), x88.2.2.1, x88.2.2.2) (.int .i64 ((((s).length - x88.1) : Nat) : Int)) r_3 (fun _ => rfl) hx89 hl98 (by kernel_rfl) (by kernel_rfl) rfl (by kernel_rfl) (by kernel_rfl) rfl ?_))
        intro w100 hr101 hg102
        replace hb := hb.grown hg102 hs (fun k hk => (World.ownsRow.lt r_3 k hk).1)
        replace hs := Nat.le_trans hs (hg102.size)
        have n_o_it9 := obj_grown o_it9 hg102 (r_3.ne o_it9 (by simp))
        replace o_it9 := n_o_it9; clear n_o_it9
        replace r_3 := hr101
        have hx103 : (List.set acc i (x88.1, ((s).length - x88.1), x88.2.2.1, x88.2.2.2))[i]? = some (x88.1, ((s).length - x88.1), x88.2.2.1, x88.2.2.2) := set_here hx89
        refine L_nil (thenQ_normal (W_region (L_mv (L_mv (L_mv (L_mv ?_))))))
        have hz := (r_3.rd).at (k := 4) (fun _ => rfl) hx103
        obtain ⟨g106, off107, hl108, hc109⟩ := hz
        refine L_ixaddr (k := .i64) v_3 i _ g106 off107 el139 hl108 (by first | omega | (simp only [List.length_set]; omega)) (by kernel_rfl) (by kernel_rfl) (L_run (.pointer (some ⟨g106, ((off107 + i * 4) + 2), none⟩)) (by kernel_rfl) (by kernel_rfl) (L_load g106 ((off107 + i * 4) + 2) (.int .i32 x88.2.2.1) (by kernel_rfl) (by kernel_rfl) (hc109 2 _ rfl) (L_cmp .i32 x88.2.2.1 65533 (x88.2.2.1 ≠ 65533) rfl (cmp_ne x88.2.2.1 65533) (by kernel_rfl) (by kernel_rfl) ?_ ?_)))
        · intro h110
          replace h110 : x88.2.2.1 ≠ 65533 := by omega
          refine L_mv (L_skip (by kernel_rfl) (L_skip (by kernel_rfl) (L_skip (by kernel_rfl) (L_skip (by kernel_rfl) (L_skip (by kernel_rfl) (L_skip (by kernel_rfl) (L_pickT (by kernel_rfl) ?_)))))))
          have hz := (r_3.rd).at (k := 4) (fun _ => rfl) hx103
          obtain ⟨g113, off114, hl115, hc116⟩ := hz
          refine L_ixaddr (k := .i64) v_3 i _ g113 off114 el139 hl115 (by first | omega | (simp only [List.length_set]; omega)) (by kernel_rfl) (by kernel_rfl) (L_run (.pointer (some ⟨g113, ((off114 + i * 4) + 3), none⟩)) (by kernel_rfl) (by kernel_rfl) (L_storeRow i 3 g113 off114 (x88.1, ((s).length - x88.1), x88.2.2.1, x88.2.2.2) (x88.1, ((s).length - x88.1), x88.2.2.1, true) (.bool true) r_3 (fun _ => rfl) hx103 hl115 (by kernel_rfl) (by kernel_rfl) rfl (by kernel_rfl) (by kernel_rfl) rfl ?_))
          intro w117 hr118 hg119
          replace hb := hb.grown hg119 hs (fun k hk => (World.ownsRow.lt r_3 k hk).1)
          replace hs := Nat.le_trans hs (hg119.size)
          have n_o_it9 := obj_grown o_it9 hg119 (r_3.ne o_it9 (by simp))
          replace o_it9 := n_o_it9; clear n_o_it9
          replace r_3 := hr118
          have hx120 : (List.set (List.set acc i (x88.1, ((s).length - x88.1), x88.2.2.1, x88.2.2.2)) i (x88.1, ((s).length - x88.1), x88.2.2.1, true))[i]? = some (x88.1, ((s).length - x88.1), x88.2.2.1, true) := set_here hx103
          refine L_nil (blkQ_normal (thenQ_normal (W_region (L_mv (L_addN i 1 (by omega) (by kernel_rfl) (by kernel_rfl) (L_as (L_nil ?_)))))))
          refine thenQ_normal ⟨_, ?_, (i + 1), (List.set (List.set acc i (x88.1, ((s).length - x88.1), x88.2.2.1, x88.2.2.2)) i (x88.1, ((s).length - x88.1), x88.2.2.1, true)), v_3, rfl, hds, by kernel_rfl, by kernel_rfl, by kernel_rfl, by kernel_rfl, r_3, o_it9, hb, hs, ?_, ?_⟩
          · (simp only [List.length_set]; omega)
          · simp only [List.length_set]; omega
          · exact mix_set3 i2 (by assumption) (by first | exact .inl ⟨_, by assumption, rfl⟩ | exact .inr ⟨by omega, rfl⟩) (by first | exact (decide_eq_true (.inl (by assumption))).symm | exact (decide_eq_true (.inr (by omega))).symm | exact (decide_eq_false (by omega)).symm)
        · intro h121
          replace h121 : x88.2.2.1 = 65533 := by omega
          refine L_mv (L_want (by kernel_rfl) (L_mv (L_want (by kernel_rfl) (L_mv (L_want (by kernel_rfl) ?_)))))
          have hz := (r_3.rd).at (k := 4) (fun _ => rfl) hx103
          obtain ⟨g124, off125, hl126, hc127⟩ := hz
          refine L_ixaddr (k := .i64) v_3 i _ g124 off125 el139 hl126 (by first | omega | (simp only [List.length_set]; omega)) (by kernel_rfl) (by kernel_rfl) (L_want (by kernel_rfl) (L_run (.pointer (some ⟨g124, ((off125 + i * 4) + 1), none⟩)) (by kernel_rfl) (by kernel_rfl) (L_want (by kernel_rfl) (L_load g124 ((off125 + i * 4) + 1) (.int .i64 ((((s).length - x88.1) : Nat) : Int)) (by kernel_rfl) (by kernel_rfl) (hc127 1 _ rfl) (L_want (by kernel_rfl) (L_cmp .i64 ((((s).length - x88.1) : Nat) : Int) ((3 : Nat) : Int) (((s).length - x88.1) = 3) rfl (cmpN_eq ((s).length - x88.1) 3) (by kernel_rfl) (by kernel_rfl) ?_ ?_))))))
          · intro h128
            replace h128 : ((s).length - x88.1) = 3 := by omega
            refine L_pickF (by kernel_rfl) ?_
            have hz := (r_3.rd).at (k := 4) (fun _ => rfl) hx103
            obtain ⟨g131, off132, hl133, hc134⟩ := hz
            refine L_ixaddr (k := .i64) v_3 i _ g131 off132 el139 hl133 (by first | omega | (simp only [List.length_set]; omega)) (by kernel_rfl) (by kernel_rfl) (L_run (.pointer (some ⟨g131, ((off132 + i * 4) + 3), none⟩)) (by kernel_rfl) (by kernel_rfl) (L_storeRow i 3 g131 off132 (x88.1, ((s).length - x88.1), x88.2.2.1, x88.2.2.2) (x88.1, ((s).length - x88.1), x88.2.2.1, true) (.bool true) r_3 (fun _ => rfl) hx103 hl133 (by kernel_rfl) (by kernel_rfl) rfl (by kernel_rfl) (by kernel_rfl) rfl ?_))
            intro w135 hr136 hg137
            replace hb := hb.grown hg137 hs (fun k hk => (World.ownsRow.lt r_3 k hk).1)
            replace hs := Nat.le_trans hs (hg137.size)
            have n_o_it9 := obj_grown o_it9 hg137 (r_3.ne o_it9 (by simp))
            replace o_it9 := n_o_it9; clear n_o_it9
            replace r_3 := hr136
            have hx138 : (List.set (List.set acc i (x88.1, ((s).length - x88.1), x88.2.2.1, x88.2.2.2)) i (x88.1, ((s).length - x88.1), x88.2.2.1, true))[i]? = some (x88.1, ((s).length - x88.1), x88.2.2.1, true) := set_here hx103
            refine L_nil (blkQ_normal (thenQ_normal (W_region (L_mv (L_addN i 1 (by omega) (by kernel_rfl) (by kernel_rfl) (L_as (L_nil ?_)))))))
            refine thenQ_normal ⟨_, ?_, (i + 1), (List.set (List.set acc i (x88.1, ((s).length - x88.1), x88.2.2.1, x88.2.2.2)) i (x88.1, ((s).length - x88.1), x88.2.2.1, true)), v_3, rfl, hds, by kernel_rfl, by kernel_rfl, by kernel_rfl, by kernel_rfl, r_3, o_it9, hb, hs, ?_, ?_⟩
            · (simp only [List.length_set]; omega)
            · simp only [List.length_set]; omega
            · exact mix_set3 i2 (by assumption) (by first | exact .inl ⟨_, by assumption, rfl⟩ | exact .inr ⟨by omega, rfl⟩) (by first | exact (decide_eq_true (.inl (by assumption))).symm | exact (decide_eq_true (.inr (by omega))).symm | exact (decide_eq_false (by omega)).symm)
          · intro h139
            replace h139 : ((s).length - x88.1) ≠ 3 := by omega
            refine L_pickF (by kernel_rfl) ?_
            have hz := (r_3.rd).at (k := 4) (fun _ => rfl) hx103
            obtain ⟨g142, off143, hl144, hc145⟩ := hz
            refine L_ixaddr (k := .i64) v_3 i _ g142 off143 el139 hl144 (by first | omega | (simp only [List.length_set]; omega)) (by kernel_rfl) (by kernel_rfl) (L_run (.pointer (some ⟨g142, ((off143 + i * 4) + 3), none⟩)) (by kernel_rfl) (by kernel_rfl) (L_storeRow i 3 g142 off143 (x88.1, ((s).length - x88.1), x88.2.2.1, x88.2.2.2) (x88.1, ((s).length - x88.1), x88.2.2.1, false) (.bool false) r_3 (fun _ => rfl) hx103 hl144 (by kernel_rfl) (by kernel_rfl) rfl (by kernel_rfl) (by kernel_rfl) rfl ?_))
            intro w146 hr147 hg148
            replace hb := hb.grown hg148 hs (fun k hk => (World.ownsRow.lt r_3 k hk).1)
            replace hs := Nat.le_trans hs (hg148.size)
            have n_o_it9 := obj_grown o_it9 hg148 (r_3.ne o_it9 (by simp))
            replace o_it9 := n_o_it9; clear n_o_it9
            replace r_3 := hr147
            have hx149 : (List.set (List.set acc i (x88.1, ((s).length - x88.1), x88.2.2.1, x88.2.2.2)) i (x88.1, ((s).length - x88.1), x88.2.2.1, false))[i]? = some (x88.1, ((s).length - x88.1), x88.2.2.1, false) := set_here hx103
            refine L_nil (blkQ_normal (thenQ_normal (W_region (L_mv (L_addN i 1 (by omega) (by kernel_rfl) (by kernel_rfl) (L_as (L_nil ?_)))))))
            refine thenQ_normal ⟨_, ?_, (i + 1), (List.set (List.set acc i (x88.1, ((s).length - x88.1), x88.2.2.1, x88.2.2.2)) i (x88.1, ((s).length - x88.1), x88.2.2.1, false)), v_3, rfl, hds, by kernel_rfl, by kernel_rfl, by kernel_rfl, by kernel_rfl, r_3, o_it9, hb, hs, ?_, ?_⟩
            · (simp only [List.length_set]; omega)
            · simp only [List.length_set]; omega
            · exact mix_set3 i2 (by assumption) (by first | exact .inl ⟨_, by assumption, rfl⟩ | exact .inr ⟨by omega, rfl⟩) (by first | exact (decide_eq_true (.inl (by assumption))).symm | exact (decide_eq_true (.inr (by omega))).symm | exact (decide_eq_false (by omega)).symm)
    · intro h150
      replace h150 : (acc).length ≤ i := by omega
      refine L_nil (thenQ_normal (W_false (by kernel_rfl) (W_exit (thenQ_exit (thenQ_exit (blkQ_exit (thenQ_normal (W_seq (W_region (L_mv (L_as (L_nil (thenQ_normal (W_ret ?_))))))))))))))
      refine end_ret [.tmp 2] [v_3] rfl hds ⟨by kernel_rfl, trivial⟩ ?_
      have e51 : acc = chF s := by first | exact mix_done i2 (by omega)
      exact ⟨v_3, rfl, r_3.cast e51, hb⟩

set_option maxHeartbeats 4000000 in
set_option maxRecDepth 100000 in
theorem c_furrowref03_Check (s : List UInt8) (w : World) (hs : s.length ≤ 1073741824) :
    Calls Tryz.prog 51 #[(S s)] w (Ret fun v w' => v = (.tuple #[(.int .i64 (((chkF s).1 : Nat) : Int)), (.int .i64 ((chkF s).2))]) ∧ Below w.heap.size w w') := by
  refine enter (args := [(S s)]) Tryz.func51 rfl (by kernel_rfl : _ = 50) (by kernel_rfl) ?_
  have hb := Below.refl w.heap.size w
  have hs : w.heap.size ≤ w.heap.size := Nat.le_refl _
  refine W_seq (W_region (L_as (L_as (L_nil (thenQ_normal (W_seq (W_region (L_mv (L_call 63 [(S s)] (by kernel_rfl) (by kernel_rfl) (c_furrowref03_Chars s _ (by omega)) ?_)))))))))
  rintro q1 w2 ⟨_, rfl, r_q1, hB3⟩
  replace r_q1 := r_q1.base hs
  replace hb := hb.trans (hB3.mono hs)
  replace hs := Nat.le_trans hs (hB3.size)
  have := chF_len s
  have := chars_len s
  refine L_as (L_nil (thenQ_normal (W_seq (W_seq (W_region (L_as (L_nil (thenQ_normal (W_block ?_)))))))))
  refine W_loop (fun m s0 w0 => ∃ (i : Nat), (m = (chF s).length - i) ∧ (s0.ds = []) ∧ (s0.f 4 = q1) ∧ (s0.f 5 = (.int .i64 ((i : Nat) : Int))) ∧ (Row w0 w.heap.size 142 4 encChar q1 (chF s)) ∧ (Below w.heap.size w w0) ∧ (w.heap.size ≤ w0.heap.size) ∧ (i ≤ (chF s).length) ∧ (i ≤ 4096) ∧ (chkL ((charsFrom s 0).drop i) i = chkF s)) _ ⟨0, rfl, by kernel_rfl, by kernel_rfl, by kernel_rfl, r_q1, hb, hs, by omega, by omega, rfl⟩ ?_
  rintro m5 s6 w7 ⟨i, hm, hds, f_4, f_5, r_q1, hb, hs, i1, i4, i3⟩
  refine W_set 4 _ f_4 (W_set 5 _ f_5 ?_)
  clear f_4 f_5
  refine W_seq (W_seq (W_region (L_mv (L_mv (L_len 139 142 (chF s).length q1 rfl Tryz.underlying139 (r_q1.rd).len (by kernel_rfl) (L_cmp .i64 ((i : Nat) : Int) (((chF s).length : Nat) : Int) (i < (chF s).length) rfl (cmpN_lt i ((chF s).length)) (by kernel_rfl) (by kernel_rfl) ?_ ?_))))))
  · intro h8
    replace h8 : i < (chF s).length := by omega
    refine L_nil (thenQ_normal (W_true (by kernel_rfl) (W_skip (thenQ_normal (W_seq (W_block (W_block (W_seq (W_region (L_mv (L_cmp .i64 ((i : Nat) : Int) ((4096 : Nat) : Int) (i = 4096) rfl (cmpN_eq i 4096) (by kernel_rfl) (by kernel_rfl) ?_ ?_)))))))))))
    · intro h9
      replace h9 : i = 4096 := by omega
      refine L_as (L_nil (thenQ_normal (W_true (by kernel_rfl) (W_seq (W_region (L_mv (L_as (L_as (L_nil (thenQ_normal (W_ret (blkQ_ret (blkQ_ret (thenQ_ret (thenQ_ret (blkQ_ret (thenQ_ret ?_)))))))))))))))))
      refine end_ret [.tmp 2, .tmp 3] [(.int .i64 ((i : Nat) : Int)), (.int .i64 32)] rfl hds ⟨by kernel_rfl, by kernel_rfl, trivial⟩ ?_
      have hE : (i = (chkF s).1) ∧ ((32 : Int) = (chkF s).2) := ⟨(by (rw [ck_wide2 (by omega) (by assumption) i3]; (try first | rfl | (show i = 4096; assumption)); done)), (by (rw [ck_wide2 (by omega) (by assumption) i3]; (try first | rfl | (show i = 4096; assumption)); done))⟩
      exact ⟨tup2 (congrArg (fun x : Nat => Value.int .i64 (x : Int)) hE.1) (congrArg (Value.int .i64) hE.2), hb⟩
    · intro h10
      replace h10 : i ≠ 4096 := by omega
      refine L_as (L_nil (thenQ_normal (W_false (by kernel_rfl) (W_seq (W_region (L_mv (L_mv ?_)))))))
      have hz := get_some (chF s) i (by omega); obtain ⟨x11, hx12⟩ := hz
      have hz := (r_q1.rd).at (k := 4) (fun _ => rfl) hx12
      obtain ⟨g13, off14, hl15, hc16⟩ := hz
      have hn_x11 : -2147483648 ≤ x11.2.2.1 ∧ x11.2.2.1 ≤ 2147483647 := chF_range hx12
      refine L_ixaddr (k := .i64) q1 i _ g13 off14 el139 hl15 (by omega) (by kernel_rfl) (by kernel_rfl) (L_run (.pointer (some ⟨g13, ((off14 + i * 4) + 3), none⟩)) (by kernel_rfl) (by kernel_rfl) (L_load g13 ((off14 + i * 4) + 3) (.bool x11.2.2.2) (by kernel_rfl) (by kernel_rfl) (hc16 3 _ rfl) (L_not x11.2.2.2 (by kernel_rfl) (L_as (L_nil (thenQ_normal ?_))))))
      rcases Bool.eq_false_or_eq_true (!x11.2.2.2) with hc17 | hc17
      · skip
        refine W_ifT hc17 (by kernel_rfl) (W_seq (W_region (L_mv (L_as (L_as (L_nil (thenQ_normal (W_ret (blkQ_ret (blkQ_ret (thenQ_ret (thenQ_ret (blkQ_ret (thenQ_ret ?_))))))))))))))
        refine end_ret [.tmp 2, .tmp 3] [(.int .i64 ((i : Nat) : Int)), (.int .i64 30)] rfl hds ⟨by kernel_rfl, by kernel_rfl, trivial⟩ ?_
        have hE : (i = (chkF s).1) ∧ ((30 : Int) = (chkF s).2) := ⟨(by (rw [ck_wrongX (by assumption) (by assumption) (by omega) i3]; done)), (by (rw [ck_wrongX (by assumption) (by assumption) (by omega) i3]; done))⟩
        exact ⟨tup2 (congrArg (fun x : Nat => Value.int .i64 (x : Int)) hE.1) (congrArg (Value.int .i64) hE.2), hb⟩
      · skip
        refine W_ifF hc17 (by kernel_rfl) (W_seq (W_region (L_mv (L_mv ?_))))
        have hz := (r_q1.rd).at (k := 4) (fun _ => rfl) hx12
        obtain ⟨g20, off21, hl22, hc23⟩ := hz
        refine L_ixaddr (k := .i64) q1 i _ g20 off21 el139 hl22 (by omega) (by kernel_rfl) (by kernel_rfl) (L_run (.pointer (some ⟨g20, ((off21 + i * 4) + 2), none⟩)) (by kernel_rfl) (by kernel_rfl) (L_load g20 ((off21 + i * 4) + 2) (.int .i32 x11.2.2.1) (by kernel_rfl) (by kernel_rfl) (hc23 2 _ rfl) (L_cmp .i32 x11.2.2.1 32 (x11.2.2.1 < 32) rfl (cmp_lt x11.2.2.1 32) (by kernel_rfl) (by kernel_rfl) ?_ ?_)))
        · intro h24
          replace h24 : x11.2.2.1 < 32 := by omega
          refine L_mv (L_want (by kernel_rfl) (L_mv (L_want (by kernel_rfl) (L_mv (L_want (by kernel_rfl) ?_)))))
          have hz := (r_q1.rd).at (k := 4) (fun _ => rfl) hx12
          obtain ⟨g27, off28, hl29, hc30⟩ := hz
          refine L_ixaddr (k := .i64) q1 i _ g27 off28 el139 hl29 (by omega) (by kernel_rfl) (by kernel_rfl) (L_want (by kernel_rfl) (L_run (.pointer (some ⟨g27, ((off28 + i * 4) + 2), none⟩)) (by kernel_rfl) (by kernel_rfl) (L_want (by kernel_rfl) (L_load g27 ((off28 + i * 4) + 2) (.int .i32 x11.2.2.1) (by kernel_rfl) (by kernel_rfl) (hc30 2 _ rfl) (L_want (by kernel_rfl) (L_cmp .i32 x11.2.2.1 9 (x11.2.2.1 ≠ 9) rfl (cmp_ne x11.2.2.1 9) (by kernel_rfl) (by kernel_rfl) ?_ ?_))))))
          · intro h31
            replace h31 : x11.2.2.1 ≠ 9 := by omega
            refine L_pickT (by kernel_rfl) (L_mv (L_skip (by kernel_rfl) (L_skip (by kernel_rfl) (L_skip (by kernel_rfl) (L_skip (by kernel_rfl) (L_skip (by kernel_rfl) (L_skip (by kernel_rfl) (L_pickT (by kernel_rfl) (L_as (L_nil (thenQ_normal (W_true (by kernel_rfl) (W_seq (W_region (L_mv (L_as (L_as (L_nil (thenQ_normal (W_ret (blkQ_ret (blkQ_ret (thenQ_ret (thenQ_ret (blkQ_ret (thenQ_ret ?_))))))))))))))))))))))))))
            refine end_ret [.tmp 2, .tmp 3] [(.int .i64 ((i : Nat) : Int)), (.int .i64 31)] rfl hds ⟨by kernel_rfl, by kernel_rfl, trivial⟩ ?_
            have hE : (i = (chkF s).1) ∧ ((31 : Int) = (chkF s).2) := ⟨(by (rw [ck_ctlX (by assumption) (by assumption) (by omega) (by omega) i3]; done)), (by (rw [ck_ctlX (by assumption) (by assumption) (by omega) (by omega) i3]; done))⟩
            exact ⟨tup2 (congrArg (fun x : Nat => Value.int .i64 (x : Int)) hE.1) (congrArg (Value.int .i64) hE.2), hb⟩
          · intro h32
            replace h32 : x11.2.2.1 = 9 := by omega
            refine L_pickT (by kernel_rfl) (L_mv (L_want (by kernel_rfl) (L_mv (L_want (by kernel_rfl) (L_mv (L_want (by kernel_rfl) ?_))))))
            have hz := (r_q1.rd).at (k := 4) (fun _ => rfl) hx12
            obtain ⟨g35, off36, hl37, hc38⟩ := hz
            refine L_ixaddr (k := .i64) q1 i _ g35 off36 el139 hl37 (by omega) (by kernel_rfl) (by kernel_rfl) (L_want (by kernel_rfl) (L_run (.pointer (some ⟨g35, ((off36 + i * 4) + 2), none⟩)) (by kernel_rfl) (by kernel_rfl) (L_want (by kernel_rfl) (L_load g35 ((off36 + i * 4) + 2) (.int .i32 x11.2.2.1) (by kernel_rfl) (by kernel_rfl) (hc38 2 _ rfl) (L_want (by kernel_rfl) (L_cmp .i32 x11.2.2.1 127 (x11.2.2.1 = 127) rfl (cmp_eq x11.2.2.1 127) (by kernel_rfl) (by kernel_rfl) ?_ ?_))))))
            · intro h39
              replace h39 : x11.2.2.1 = 127 := by omega
              refine L_pickF (by kernel_rfl) (L_as (L_nil (thenQ_normal (W_true (by kernel_rfl) (W_seq (W_region (L_mv (L_as (L_as (L_nil (thenQ_normal (W_ret (blkQ_ret (blkQ_ret (thenQ_ret (thenQ_ret (blkQ_ret (thenQ_ret ?_))))))))))))))))))
              refine end_ret [.tmp 2, .tmp 3] [(.int .i64 ((i : Nat) : Int)), (.int .i64 31)] rfl hds ⟨by kernel_rfl, by kernel_rfl, trivial⟩ ?_
              have hE : (i = (chkF s).1) ∧ ((31 : Int) = (chkF s).2) := ⟨(by (rw [ck_ctlX (by assumption) (by assumption) (by omega) (by omega) i3]; done)), (by (rw [ck_ctlX (by assumption) (by assumption) (by omega) (by omega) i3]; done))⟩
              exact ⟨tup2 (congrArg (fun x : Nat => Value.int .i64 (x : Int)) hE.1) (congrArg (Value.int .i64) hE.2), hb⟩
            · intro h40
              replace h40 : x11.2.2.1 ≠ 127 := by omega
              refine L_pickF (by kernel_rfl) (L_as (L_nil (thenQ_normal (W_false (by kernel_rfl) (W_skip (blkQ_normal (blkQ_normal (thenQ_normal (W_region (L_mv (L_addN i 1 (by omega) (by kernel_rfl) (by kernel_rfl) (L_as (L_nil ?_)))))))))))))
              refine thenQ_normal ⟨_, ?_, (i + 1), rfl, hds, by kernel_rfl, by kernel_rfl, r_q1, hb, hs, ?_, ?_, ?_⟩
              · omega
              · omega
              · omega
              · exact ck_onX (by assumption) (by assumption) (by omega) (by omega) i3
        · intro h41
          replace h41 : 32 ≤ x11.2.2.1 := by omega
          refine L_mv (L_skip (by kernel_rfl) (L_skip (by kernel_rfl) (L_skip (by kernel_rfl) (L_skip (by kernel_rfl) (L_skip (by kernel_rfl) (L_skip (by kernel_rfl) (L_pickF (by kernel_rfl) (L_mv (L_want (by kernel_rfl) (L_mv (L_want (by kernel_rfl) (L_mv (L_want (by kernel_rfl) ?_)))))))))))))
          have hz := (r_q1.rd).at (k := 4) (fun _ => rfl) hx12
          obtain ⟨g44, off45, hl46, hc47⟩ := hz
          refine L_ixaddr (k := .i64) q1 i _ g44 off45 el139 hl46 (by omega) (by kernel_rfl) (by kernel_rfl) (L_want (by kernel_rfl) (L_run (.pointer (some ⟨g44, ((off45 + i * 4) + 2), none⟩)) (by kernel_rfl) (by kernel_rfl) (L_want (by kernel_rfl) (L_load g44 ((off45 + i * 4) + 2) (.int .i32 x11.2.2.1) (by kernel_rfl) (by kernel_rfl) (hc47 2 _ rfl) (L_want (by kernel_rfl) (L_cmp .i32 x11.2.2.1 127 (x11.2.2.1 = 127) rfl (cmp_eq x11.2.2.1 127) (by kernel_rfl) (by kernel_rfl) ?_ ?_))))))
          · intro h48
            replace h48 : x11.2.2.1 = 127 := by omega
            refine L_pickF (by kernel_rfl) (L_as (L_nil (thenQ_normal (W_true (by kernel_rfl) (W_seq (W_region (L_mv (L_as (L_as (L_nil (thenQ_normal (W_ret (blkQ_ret (blkQ_ret (thenQ_ret (thenQ_ret (blkQ_ret (thenQ_ret ?_))))))))))))))))))
            refine end_ret [.tmp 2, .tmp 3] [(.int .i64 ((i : Nat) : Int)), (.int .i64 31)] rfl hds ⟨by kernel_rfl, by kernel_rfl, trivial⟩ ?_
            have hE : (i = (chkF s).1) ∧ ((31 : Int) = (chkF s).2) := ⟨(by (rw [ck_ctlX (by assumption) (by assumption) (by omega) (by omega) i3]; done)), (by (rw [ck_ctlX (by assumption) (by assumption) (by omega) (by omega) i3]; done))⟩
            exact ⟨tup2 (congrArg (fun x : Nat => Value.int .i64 (x : Int)) hE.1) (congrArg (Value.int .i64) hE.2), hb⟩
          · intro h49
            replace h49 : x11.2.2.1 ≠ 127 := by omega
            refine L_pickF (by kernel_rfl) (L_as (L_nil (thenQ_normal (W_false (by kernel_rfl) (W_skip (blkQ_normal (blkQ_normal (thenQ_normal (W_region (L_mv (L_addN i 1 (by omega) (by kernel_rfl) (by kernel_rfl) (L_as (L_nil ?_)))))))))))))
            refine thenQ_normal ⟨_, ?_, (i + 1), rfl, hds, by kernel_rfl, by kernel_rfl, r_q1, hb, hs, ?_, ?_, ?_⟩
            · omega
            · omega
            · omega
            · exact ck_onX (by assumption) (by assumption) (by omega) (by omega) i3
  · intro h50
    replace h50 : (chF s).length ≤ i := by omega
    refine L_nil (thenQ_normal (W_false (by kernel_rfl) (W_exit (thenQ_exit (thenQ_exit (blkQ_exit (thenQ_normal (W_seq (W_region (L_as (L_as (L_nil (thenQ_normal (W_ret ?_))))))))))))))
    refine end_ret [.tmp 2, .tmp 3] [(.int .i64 0), (.int .i64 0)] rfl hds ⟨by kernel_rfl, by kernel_rfl, trivial⟩ ?_
    have hE : (0 = (chkF s).1) ∧ ((0 : Int) = (chkF s).2) := ⟨(by (rw [← ck_end (by omega) i3]; done)), (by (rw [← ck_end (by omega) i3]; done))⟩
    exact ⟨tup2 (congrArg (fun x : Nat => Value.int .i64 (x : Int)) hE.1) (congrArg (Value.int .i64) hE.2), hb⟩

set_option maxHeartbeats 4000000 in
set_option maxRecDepth 100000 in
theorem c_furrowref03_Marked (s : List UInt8) (w : World) (hs : s.length ≤ 1073741824) :
    Calls Tryz.prog 50 #[(S s)] w (Ret fun v w' => v = (.int .i64 ((markN s : Nat) : Int)) ∧ Below w.heap.size w w') := by
  refine enter (args := [(S s)]) Tryz.func50 rfl (by kernel_rfl : _ = 21) (by kernel_rfl) ?_
  have hb := Below.refl w.heap.size w
  have hs : w.heap.size ≤ w.heap.size := Nat.le_refl _
  refine W_seq (W_region (L_as (L_nil (thenQ_normal (W_seq (W_seq (W_region (L_mv (L_slen 9 s rfl Tryz.underlying9 (by kernel_rfl) (L_cmp .i64 (((s).length : Nat) : Int) ((3 : Nat) : Int) (3 ≤ (s).length) rfl (cmpN_ge ((s).length) 3) (by kernel_rfl) (by kernel_rfl) ?_ ?_))))))))))
  · intro h1
    replace h1 : 3 ≤ (s).length := by omega
    refine L_mv (L_want (by kernel_rfl) (L_mv (L_want (by kernel_rfl) ?_)))
    have hz := get_some s 0 (by omega); obtain ⟨c2, hc3⟩ := hz
    have := c2.toNat_lt
    refine L_sindex (k := .i64) s 0 c2 Tryz.underlying9 hc3 (by kernel_rfl) (by kernel_rfl) (L_want (by kernel_rfl) (L_cmp .u8 ((c2.toNat : Nat) : Int) ((239 : Nat) : Int) (c2.toNat = 239) rfl (cmpN_eq c2.toNat 239) (by kernel_rfl) (by kernel_rfl) ?_ ?_))
    · intro h4
      replace h4 : c2.toNat = 239 := by omega
      refine L_pickT (by kernel_rfl) (L_mv (L_want (by kernel_rfl) (L_mv (L_want (by kernel_rfl) ?_))))
      have hz := get_some s 1 (by omega); obtain ⟨c5, hc6⟩ := hz
      have := c5.toNat_lt
      refine L_sindex (k := .i64) s 1 c5 Tryz.underlying9 hc6 (by kernel_rfl) (by kernel_rfl) (L_want (by kernel_rfl) (L_cmp .u8 ((c5.toNat : Nat) : Int) ((187 : Nat) : Int) (c5.toNat = 187) rfl (cmpN_eq c5.toNat 187) (by kernel_rfl) (by kernel_rfl) ?_ ?_))
      · intro h7
        replace h7 : c5.toNat = 187 := by omega
        refine L_pickT (by kernel_rfl) (L_mv (L_want (by kernel_rfl) (L_mv (L_want (by kernel_rfl) ?_))))
        have hz := get_some s 2 (by omega); obtain ⟨c8, hc9⟩ := hz
        have := c8.toNat_lt
        refine L_sindex (k := .i64) s 2 c8 Tryz.underlying9 hc9 (by kernel_rfl) (by kernel_rfl) (L_want (by kernel_rfl) (L_cmp .u8 ((c8.toNat : Nat) : Int) ((191 : Nat) : Int) (c8.toNat = 191) rfl (cmpN_eq c8.toNat 191) (by kernel_rfl) (by kernel_rfl) ?_ ?_))
        · intro h10
          replace h10 : c8.toNat = 191 := by omega
          refine L_pickT (by kernel_rfl) (L_nil (thenQ_normal (W_true (by kernel_rfl) (W_seq (W_region (L_as (L_nil (thenQ_normal (W_ret (thenQ_ret ?_))))))))))
          refine end_ret [.tmp 2] [(.int .i64 3)] rfl rfl ⟨by kernel_rfl, trivial⟩ ?_
          have e0 : 3 = markN s := by exact mark_yes (by omega) (by assumption) (by assumption) (by assumption) (by assumption) (by assumption) (by assumption)
          exact ⟨congrArg (fun x : Nat => Value.int .i64 (x : Int)) e0, hb⟩
        · intro h11
          replace h11 : c8.toNat ≠ 191 := by omega
          refine L_pickT (by kernel_rfl) (L_nil (thenQ_normal (W_false (by kernel_rfl) (W_skip (thenQ_normal (W_seq (W_region (L_as (L_nil (thenQ_normal (W_ret ?_)))))))))))
          refine end_ret [.tmp 2] [(.int .i64 0)] rfl rfl ⟨by kernel_rfl, trivial⟩ ?_
          have e0 : 0 = markN s := by exact mark_no (.inr ⟨2, _, by omega, by assumption, by assumption⟩)
          exact ⟨congrArg (fun x : Nat => Value.int .i64 (x : Int)) e0, hb⟩
      · intro h12
        replace h12 : c5.toNat ≠ 187 := by omega
        refine L_pickT (by kernel_rfl) (L_mv (L_skip (by kernel_rfl) (L_skip (by kernel_rfl) (L_skip (by kernel_rfl) (L_pickF (by kernel_rfl) (L_nil (thenQ_normal (W_false (by kernel_rfl) (W_skip (thenQ_normal (W_seq (W_region (L_as (L_nil (thenQ_normal (W_ret ?_))))))))))))))))
        refine end_ret [.tmp 2] [(.int .i64 0)] rfl rfl ⟨by kernel_rfl, trivial⟩ ?_
        have e0 : 0 = markN s := by exact mark_no (.inr ⟨1, _, by omega, by assumption, by assumption⟩)
        exact ⟨congrArg (fun x : Nat => Value.int .i64 (x : Int)) e0, hb⟩
    · intro h13
      replace h13 : c2.toNat ≠ 239 := by omega
      refine L_pickT (by kernel_rfl) (L_mv (L_skip (by kernel_rfl) (L_skip (by kernel_rfl) (L_skip (by kernel_rfl) (L_pickF (by kernel_rfl) (L_mv (L_skip (by kernel_rfl) (L_skip (by kernel_rfl) (L_skip (by kernel_rfl) (L_pickF (by kernel_rfl) (L_nil (thenQ_normal (W_false (by kernel_rfl) (W_skip (thenQ_normal (W_seq (W_region (L_as (L_nil (thenQ_normal (W_ret ?_)))))))))))))))))))))
      refine end_ret [.tmp 2] [(.int .i64 0)] rfl rfl ⟨by kernel_rfl, trivial⟩ ?_
      have e0 : 0 = markN s := by exact mark_no (.inr ⟨0, _, by omega, by assumption, by assumption⟩)
      exact ⟨congrArg (fun x : Nat => Value.int .i64 (x : Int)) e0, hb⟩
  · intro h14
    replace h14 : (s).length < 3 := by omega
    refine L_mv (L_skip (by kernel_rfl) (L_skip (by kernel_rfl) (L_skip (by kernel_rfl) (L_pickF (by kernel_rfl) (L_mv (L_skip (by kernel_rfl) (L_skip (by kernel_rfl) (L_skip (by kernel_rfl) (L_pickF (by kernel_rfl) (L_mv (L_skip (by kernel_rfl) (L_skip (by kernel_rfl) (L_skip (by kernel_rfl) (L_pickF (by kernel_rfl) (L_nil (thenQ_normal (W_false (by kernel_rfl) (W_skip (thenQ_normal (W_seq (W_region (L_as (L_nil (thenQ_normal (W_ret ?_)))))))))))))))))))))))))
    refine end_ret [.tmp 2] [(.int .i64 0)] rfl rfl ⟨by kernel_rfl, trivial⟩ ?_
    have e0 : 0 = markN s := by exact mark_no (.inl (by omega))
    exact ⟨congrArg (fun x : Nat => Value.int .i64 (x : Int)) e0, hb⟩

set_option maxHeartbeats 4000000 in
set_option maxRecDepth 100000 in
theorem c_furrowref03_Pieces (s : List UInt8) (w : World) (hs : s.length ≤ 1073741824) :
    Calls Tryz.prog 31 #[(S s)] w (Ret fun v w' => ∃ (q0 : Value), v = q0 ∧ Row w' w.heap.size 96 3 encPcN q0 (pcsR s) ∧ Below w.heap.size w w') := by
  refine enter (args := [(S s)]) Tryz.func31 rfl (by kernel_rfl : _ = 57) (by kernel_rfl) ?_
  have hb := Below.refl w.heap.size w
  have hs : w.heap.size ≤ w.heap.size := Nat.le_refl _
  refine W_seq (W_region (L_as (L_nil (thenQ_normal (W_seq (W_region (L_as (L_nil (thenQ_normal (W_seq (W_region (L_mv (L_call 50 [(S s)] (by kernel_rfl) (by kernel_rfl) (c_furrowref03_Marked s _ (by omega)) ?_)))))))))))))
  rintro _ w1 ⟨rfl, hB2⟩
  replace hb := hb.trans (hB2.mono hs)
  replace hs := Nat.le_trans hs (hB2.size)
  have := mark_len s
  refine L_as (L_nil (thenQ_normal (W_seq (W_seq (W_region (L_mv (L_as (L_nil (thenQ_normal (W_block ?_))))))))))
  refine W_loop (fun m s0 w0 => ∃ (i : Nat) (a : Nat) (acc : List (Nat × Nat × Nat)) (v_3 : Value), (m = s.length - i) ∧ (s0.ds = []) ∧ (s0.f 0 = (S s)) ∧ (s0.f 2 = (.slice none 0 0)) ∧ (s0.f 3 = v_3) ∧ (s0.f 4 = (.int .i64 ((a : Nat) : Int))) ∧ (s0.f 5 = (.int .i64 ((i : Nat) : Int))) ∧ (Row w0 w.heap.size 96 3 encPcN v_3 acc) ∧ (Below w.heap.size w w0) ∧ (w.heap.size ≤ w0.heap.size) ∧ (i ≤ s.length) ∧ (a ≤ i) ∧ (acc.length ≤ a) ∧ (acc ++ (pcsFrom s a i).filter keepP = pcsR s)) _ ⟨(markN s), (markN s), [], (.slice none 0 0), rfl, by kernel_rfl, by kernel_rfl, by kernel_rfl, by kernel_rfl, by kernel_rfl, by kernel_rfl, Row.nil _ _ _ _ _, hb, hs, by omega, by omega, (Nat.zero_le _), rfl⟩ ?_
  rintro m4 s5 w6 ⟨i, a, acc, v_3, hm, hds, f_0, f_2, f_3, f_4, f_5, r_3, hb, hs, i1, i2, i4, i3⟩
  refine W_set 0 _ f_0 (W_set 2 _ f_2 (W_set 3 _ f_3 (W_set 4 _ f_4 (W_set 5 _ f_5 ?_))))
  clear f_0 f_2 f_3 f_4 f_5
  refine W_seq (W_seq (W_region (L_mv (L_mv (L_slen 9 s rfl Tryz.underlying9 (by kernel_rfl) (L_cmp .i64 ((i : Nat) : Int) (((s).length : Nat) : Int) (i < (s).length) rfl (cmpN_lt i ((s).length)) (by kernel_rfl) (by kernel_rfl) ?_ ?_))))))
  · intro h7
    replace h7 : i < (s).length := by omega
    refine L_nil (thenQ_normal (W_true (by kernel_rfl) (W_skip (thenQ_normal (W_seq (W_block (W_seq (W_seq (W_region (L_mv (L_mv ?_)))))))))))
    have hz := get_some s i (by omega); obtain ⟨c8, hc9⟩ := hz
    have := c8.toNat_lt
    refine L_sindex (k := .i64) s i c8 Tryz.underlying9 hc9 (by kernel_rfl) (by kernel_rfl) (L_cmp .u8 ((c8.toNat : Nat) : Int) ((10 : Nat) : Int) (c8.toNat ≠ 10) rfl (cmpN_ne c8.toNat 10) (by kernel_rfl) (by kernel_rfl) ?_ ?_)
    · intro h10
      replace h10 : c8.toNat ≠ 10 := by omega
      refine L_nil (thenQ_normal (W_true (by kernel_rfl) (W_exit (thenQ_exit (blkQ_exit (thenQ_normal (W_region (L_mv (L_addN i 1 (by omega) (by kernel_rfl) (by kernel_rfl) (L_as (L_nil ?_)))))))))))
      refine thenQ_normal ⟨_, ?_, (i + 1), a, acc, v_3, rfl, hds, by kernel_rfl, by kernel_rfl, by kernel_rfl, by kernel_rfl, by kernel_rfl, r_3, hb, hs, ?_, ?_, ?_, ?_⟩
      · omega
      · omega
      · omega
      · first | omega | (simp only [List.length_append, List.length_cons, List.length_nil]; omega)
      · exact pr_on (by assumption) (by assumption) i3
    · intro h11
      replace h11 : c8.toNat = 10 := by omega
      refine L_nil (thenQ_normal (W_false (by kernel_rfl) (W_skip (thenQ_normal (W_seq (W_region (L_mv (L_as (L_nil (thenQ_normal (W_seq (W_seq (W_region (L_mv (L_mv (L_cmp .i64 ((i : Nat) : Int) ((a : Nat) : Int) (a < i) rfl (cmpN_gt i a) (by kernel_rfl) (by kernel_rfl) ?_ ?_))))))))))))))))
      · intro h12
        replace h12 : a < i := by omega
        refine L_mv (L_want (by kernel_rfl) (L_mv (L_want (by kernel_rfl) (L_mv (L_want (by kernel_rfl) (L_subN i 1 (by omega) (by omega) (by kernel_rfl) (by kernel_rfl) (L_want (by kernel_rfl) ?_)))))))
        have hz := get_some s (i - 1) (by omega); obtain ⟨c13, hc14⟩ := hz
        have := c13.toNat_lt
        refine L_sindex (k := .i64) s (i - 1) c13 Tryz.underlying9 hc14 (by kernel_rfl) (by kernel_rfl) (L_want (by kernel_rfl) (L_cmp .u8 ((c13.toNat : Nat) : Int) ((13 : Nat) : Int) (c13.toNat = 13) rfl (cmpN_eq c13.toNat 13) (by kernel_rfl) (by kernel_rfl) ?_ ?_))
        · intro h15
          replace h15 : c13.toNat = 13 := by omega
          refine L_pickT (by kernel_rfl) (L_nil (thenQ_normal (W_true (by kernel_rfl) (W_region (L_mv (L_subN i 1 (by omega) (by omega) (by kernel_rfl) (by kernel_rfl) (L_as (L_nil (thenQ_normal (W_seq (W_region (L_mv (L_mv (L_mv (L_mv (L_addN i 1 (by omega) (by kernel_rfl) (by kernel_rfl) (L_run (Value.agg #[(.int .i64 ((a : Nat) : Int)), (.int .i64 (((i - 1) : Nat) : Int)), (.int .i64 (((i + 1) : Nat) : Int))]) (by kernel_rfl) (by kernel_rfl) (L_app el93 w.heap.size v_3 acc (a, (i - 1), (i + 1)) hs r_3 (by omega) (by kernel_rfl) rfl rfl (by kernel_rfl) rfl (by kernel_rfl) (by kernel_rfl) ?_))))))))))))))))))
          intro v16 w17 hr18 hg19 how20
          replace hb := hb.grown hg19 hs (fun k hk => (World.ownsRow.lt r_3 k hk).1)
          replace hs := Nat.le_trans hs (hg19.size)
          replace r_3 := hr18
          refine L_as (L_nil (thenQ_normal (W_region (L_mv (L_addN i 1 (by omega) (by kernel_rfl) (by kernel_rfl) (L_as (L_nil (blkQ_normal (thenQ_normal (W_region (L_mv (L_addN i 1 (by omega) (by kernel_rfl) (by kernel_rfl) (L_as (L_nil ?_))))))))))))))
          refine thenQ_normal ⟨_, ?_, (i + 1), (i + 1), (acc ++ [(a, (i - 1), (i + 1))]), v16, rfl, hds, by kernel_rfl, by kernel_rfl, by kernel_rfl, by kernel_rfl, by kernel_rfl, r_3, hb, hs, ?_, ?_, ?_, ?_⟩
          · omega
          · omega
          · omega
          · first | omega | (simp only [List.length_append, List.length_cons, List.length_nil]; omega)
          · exact pr_nl i2 (by assumption) (by assumption) (cr_one (by omega) (by assumption) (by assumption)) i3
        · intro h21
          replace h21 : c13.toNat ≠ 13 := by omega
          refine L_pickT (by kernel_rfl) (L_nil (thenQ_normal (W_false (by kernel_rfl) (W_skip (thenQ_normal (W_seq (W_region (L_mv (L_mv (L_mv (L_mv (L_addN i 1 (by omega) (by kernel_rfl) (by kernel_rfl) (L_run (Value.agg #[(.int .i64 ((a : Nat) : Int)), (.int .i64 ((i : Nat) : Int)), (.int .i64 (((i + 1) : Nat) : Int))]) (by kernel_rfl) (by kernel_rfl) (L_app el93 w.heap.size v_3 acc (a, i, (i + 1)) hs r_3 (by omega) (by kernel_rfl) rfl rfl (by kernel_rfl) rfl (by kernel_rfl) (by kernel_rfl) ?_))))))))))))))
          intro v22 w23 hr24 hg25 how26
          replace hb := hb.grown hg25 hs (fun k hk => (World.ownsRow.lt r_3 k hk).1)
          replace hs := Nat.le_trans hs (hg25.size)
          replace r_3 := hr24
          refine L_as (L_nil (thenQ_normal (W_region (L_mv (L_addN i 1 (by omega) (by kernel_rfl) (by kernel_rfl) (L_as (L_nil (blkQ_normal (thenQ_normal (W_region (L_mv (L_addN i 1 (by omega) (by kernel_rfl) (by kernel_rfl) (L_as (L_nil ?_))))))))))))))
          refine thenQ_normal ⟨_, ?_, (i + 1), (i + 1), (acc ++ [(a, i, (i + 1))]), v22, rfl, hds, by kernel_rfl, by kernel_rfl, by kernel_rfl, by kernel_rfl, by kernel_rfl, r_3, hb, hs, ?_, ?_, ?_, ?_⟩
          · omega
          · omega
          · omega
          · first | omega | (simp only [List.length_append, List.length_cons, List.length_nil]; omega)
          · exact pr_nl i2 (by assumption) (by assumption) (cr_not (by assumption) (by assumption)) i3
      · intro h27
        replace h27 : i ≤ a := by omega
        refine L_mv (L_skip (by kernel_rfl) (L_skip (by kernel_rfl) (L_skip (by kernel_rfl) (L_skip (by kernel_rfl) (L_skip (by kernel_rfl) (L_pickF (by kernel_rfl) (L_nil (thenQ_normal (W_false (by kernel_rfl) (W_skip (thenQ_normal (W_seq (W_region (L_mv (L_mv (L_mv (L_mv (L_addN i 1 (by omega) (by kernel_rfl) (by kernel_rfl) (L_run (Value.agg #[(.int .i64 ((a : Nat) : Int)), (.int .i64 ((i : Nat) : Int)), (.int .i64 (((i + 1) : Nat) : Int))]) (by kernel_rfl) (by kernel_rfl) (L_app el93 w.heap.size v_3 acc (a, i, (i + 1)) hs r_3 (by omega) (by kernel_rfl) rfl rfl (by kernel_rfl) rfl (by kernel_rfl) (by kernel_rfl) ?_))))))))))))))))))))
        intro v28 w29 hr30 hg31 how32
        replace hb := hb.grown hg31 hs (fun k hk => (World.ownsRow.lt r_3 k hk).1)
        replace hs := Nat.le_trans hs (hg31.size)
        replace r_3 := hr30
        refine L_as (L_nil (thenQ_normal (W_region (L_mv (L_addN i 1 (by omega) (by kernel_rfl) (by kernel_rfl) (L_as (L_nil (blkQ_normal (thenQ_normal (W_region (L_mv (L_addN i 1 (by omega) (by kernel_rfl) (by kernel_rfl) (L_as (L_nil ?_))))))))))))))
        refine thenQ_normal ⟨_, ?_, (i + 1), (i + 1), (acc ++ [(a, i, (i + 1))]), v28, rfl, hds, by kernel_rfl, by kernel_rfl, by kernel_rfl, by kernel_rfl, by kernel_rfl, r_3, hb, hs, ?_, ?_, ?_, ?_⟩
        · omega
        · omega
        · omega
        · first | omega | (simp only [List.length_append, List.length_cons, List.length_nil]; omega)
        · exact pr_nl i2 (by assumption) (by assumption) (cr_low (by omega)) i3
  · intro h33
    replace h33 : (s).length ≤ i := by omega
    refine L_nil (thenQ_normal (W_false (by kernel_rfl) (W_exit (thenQ_exit (thenQ_exit (blkQ_exit (thenQ_normal (W_seq (W_seq (W_region (L_mv (L_mv (L_slen 9 s rfl Tryz.underlying9 (by kernel_rfl) (L_cmp .i64 ((a : Nat) : Int) (((s).length : Nat) : Int) (a < (s).length) rfl (cmpN_lt a ((s).length)) (by kernel_rfl) (by kernel_rfl) ?_ ?_))))))))))))))
    · intro h34
      replace h34 : a < (s).length := by omega
      refine L_nil (thenQ_normal (W_true (by kernel_rfl) (W_region (L_mv (L_mv (L_mv (L_slen 9 s rfl Tryz.underlying9 (by kernel_rfl) (L_mv (L_slen 9 s rfl Tryz.underlying9 (by kernel_rfl) (L_run (Value.agg #[(.int .i64 ((a : Nat) : Int)), (.int .i64 (((s).length : Nat) : Int)), (.int .i64 (((s).length : Nat) : Int))]) (by kernel_rfl) (by kernel_rfl) (L_app el93 w.heap.size v_3 acc (a, (s).length, (s).length) hs r_3 (by omega) (by kernel_rfl) rfl rfl (by kernel_rfl) rfl (by kernel_rfl) (by kernel_rfl) ?_)))))))))))
      intro v35 w36 hr37 hg38 how39
      replace hb := hb.grown hg38 hs (fun k hk => (World.ownsRow.lt r_3 k hk).1)
      replace hs := Nat.le_trans hs (hg38.size)
      replace r_3 := hr37
      refine L_as (L_nil (thenQ_normal (W_seq (W_region (L_mv (L_as (L_nil (thenQ_normal (W_ret ?_)))))))))
      refine end_ret [.tmp 2] [v35] rfl hds ⟨by kernel_rfl, trivial⟩ ?_
      have e51 : (acc ++ [(a, (s).length, (s).length)]) = pcsR s := by first | exact pr_last (by omega) (by omega) i3 | exact pr_none (by omega) (by omega) i3
      exact ⟨v35, rfl, r_3.cast e51, hb⟩
    · intro h40
      replace h40 : (s).length ≤ a := by omega
      refine L_nil (thenQ_normal (W_false (by kernel_rfl) (W_skip (thenQ_normal (W_seq (W_region (L_mv (L_as (L_nil (thenQ_normal (W_ret ?_)))))))))))
      refine end_ret [.tmp 2] [v_3] rfl hds ⟨by kernel_rfl, trivial⟩ ?_
      have e51 : acc = pcsR s := by first | exact pr_last (by omega) (by omega) i3 | exact pr_none (by omega) (by omega) i3
      exact ⟨v_3, rfl, r_3.cast e51, hb⟩

set_option maxHeartbeats 4000000 in
set_option maxRecDepth 100000 in
theorem c_furrowref03_Trim (s : List UInt8) (w : World) (hs : s.length ≤ 1073741824) :
    Calls Tryz.prog 64 #[(S s)] w (Ret fun v w' => v = (S (trmF s)) ∧ Below w.heap.size w w') := by
  refine enter (args := [(S s)]) Tryz.func64 rfl (by kernel_rfl : _ = 43) (by kernel_rfl) ?_
  have hb := Below.refl w.heap.size w
  have hs : w.heap.size ≤ w.heap.size := Nat.le_refl _
  refine W_seq (W_region (L_as (L_nil (thenQ_normal (W_seq (W_block ?_))))))
  refine W_loop (fun m s0 w0 => ∃ (a : List UInt8), (m = a.length) ∧ (s0.ds = []) ∧ (s0.f 2 = (S ([] : List UInt8))) ∧ (s0.f 0 = (S a)) ∧ (Below w.heap.size w w0) ∧ (w.heap.size ≤ w0.heap.size) ∧ (a.length ≤ s.length) ∧ (trmF a = trmF s)) _ ⟨s, rfl, by kernel_rfl, by kernel_rfl, by kernel_rfl, hb, hs, (Nat.le_refl _), rfl⟩ ?_
  rintro m1 s2 w3 ⟨a, hm, hds, f_2, f_0, hb, hs, i1, i3⟩
  refine W_set 2 _ f_2 (W_set 0 _ f_0 ?_)
  clear f_2 f_0
  refine W_seq (W_seq (W_region (L_mv (L_slen 9 a rfl Tryz.underlying9 (by kernel_rfl) (L_cmp .i64 (((a).length : Nat) : Int) ((0 : Nat) : Int) (0 < (a).length) rfl (cmpN_gt ((a).length) 0) (by kernel_rfl) (by kernel_rfl) ?_ ?_)))))
  · intro h4
    replace h4 : 0 < (a).length := by omega
    refine L_mv (L_want (by kernel_rfl) (L_mv (L_want (by kernel_rfl) ?_)))
    have hz := get_some a 0 (by first | omega | (simp only [List.length_drop, List.length_take]; omega)); obtain ⟨c5, hc6⟩ := hz
    have := c5.toNat_lt
    refine L_sindex (k := .i64) a 0 c5 Tryz.underlying9 hc6 (by kernel_rfl) (by kernel_rfl) (L_want (by kernel_rfl) (L_cmp .u8 ((c5.toNat : Nat) : Int) ((32 : Nat) : Int) (c5.toNat = 32) rfl (cmpN_eq c5.toNat 32) (by kernel_rfl) (by kernel_rfl) ?_ ?_))
    · intro h7
      replace h7 : c5.toNat = 32 := by omega
      refine L_want (by kernel_rfl) (L_mv (L_skip (by kernel_rfl) (L_skip (by kernel_rfl) (L_skip (by kernel_rfl) (L_want (by kernel_rfl) (L_pickT (by kernel_rfl) (L_pickT (by kernel_rfl) (L_nil (thenQ_normal (W_true (by kernel_rfl) (W_skip (thenQ_normal (W_block (W_region (L_mv (L_ssfrom a 1 Tryz.underlying9 (by kernel_rfl) ⟨.i64, by kernel_rfl⟩ (by first | omega | (simp only [List.length_drop, List.length_take]; omega)) (L_as (L_nil (blkQ_normal ?_)))))))))))))))))))
      refine thenQ_normal ⟨_, ?_, (List.drop 1 a), rfl, hds, by kernel_rfl, by kernel_rfl, hb, hs, ?_, ?_⟩
      · (simp only [List.length_drop]; omega)
      · simp only [List.length_drop]; omega
      · first | exact (trm_left (by assumption) (.inl (by assumption))).trans i3 | exact (trm_left (by assumption) (.inr (by assumption))).trans i3
    · intro h8
      replace h8 : c5.toNat ≠ 32 := by omega
      refine L_want (by kernel_rfl) (L_mv (L_want (by kernel_rfl) (L_mv (L_want (by kernel_rfl) ?_))))
      refine L_sindex (k := .i64) a 0 c5 Tryz.underlying9 hc6 (by kernel_rfl) (by kernel_rfl) (L_want (by kernel_rfl) (L_cmp .u8 ((c5.toNat : Nat) : Int) ((9 : Nat) : Int) (c5.toNat = 9) rfl (cmpN_eq c5.toNat 9) (by kernel_rfl) (by kernel_rfl) ?_ ?_))
      · intro h9
        replace h9 : c5.toNat = 9 := by omega
        refine L_want (by kernel_rfl) (L_pickF (by kernel_rfl) (L_pickT (by kernel_rfl) (L_nil (thenQ_normal (W_true (by kernel_rfl) (W_skip (thenQ_normal (W_block (W_region (L_mv (L_ssfrom a 1 Tryz.underlying9 (by kernel_rfl) ⟨.i64, by kernel_rfl⟩ (by first | omega | (simp only [List.length_drop, List.length_take]; omega)) (L_as (L_nil (blkQ_normal ?_))))))))))))))
        refine thenQ_normal ⟨_, ?_, (List.drop 1 a), rfl, hds, by kernel_rfl, by kernel_rfl, hb, hs, ?_, ?_⟩
        · (simp only [List.length_drop]; omega)
        · simp only [List.length_drop]; omega
        · first | exact (trm_left (by assumption) (.inl (by assumption))).trans i3 | exact (trm_left (by assumption) (.inr (by assumption))).trans i3
      · intro h10
        replace h10 : c5.toNat ≠ 9 := by omega
        refine L_want (by kernel_rfl) (L_pickF (by kernel_rfl) (L_pickT (by kernel_rfl) (L_nil (thenQ_normal (W_false (by kernel_rfl) (W_exit (thenQ_exit (thenQ_exit (blkQ_exit (thenQ_normal (W_seq (W_block ?_))))))))))))
        refine W_loop (fun m s0 w0 => ∃ (a : List UInt8), (m = a.length) ∧ (s0.ds = []) ∧ (s0.f 2 = (S ([] : List UInt8))) ∧ (s0.f 0 = (S a)) ∧ (Below w.heap.size w w0) ∧ (w.heap.size ≤ w0.heap.size) ∧ (a.length ≤ s.length) ∧ (trmF a = trmF s) ∧ (a = [] ∨ ∃ c, a[0]? = some c ∧ ¬ (c.toNat = 32 ∨ c.toNat = 9))) _ ⟨a, rfl, hds, by kernel_rfl, by kernel_rfl, hb, hs, i1, i3, (by first | exact .inl (List.eq_nil_of_length_eq_zero (by omega)) | exact .inr ⟨_, by assumption, by omega⟩)⟩ ?_
        rintro m11 s12 w13 ⟨a, hm, hds, f_2, f_0, hb, hs, i1, i3, i4⟩
        refine W_set 2 _ f_2 (W_set 0 _ f_0 ?_)
        clear f_2 f_0
        refine W_seq (W_seq (W_region (L_mv (L_slen 9 a rfl Tryz.underlying9 (by kernel_rfl) (L_cmp .i64 (((a).length : Nat) : Int) ((0 : Nat) : Int) (0 < (a).length) rfl (cmpN_gt ((a).length) 0) (by kernel_rfl) (by kernel_rfl) ?_ ?_)))))
        · intro h14
          replace h14 : 0 < (a).length := by omega
          refine L_mv (L_want (by kernel_rfl) (L_mv (L_want (by kernel_rfl) (L_mv (L_want (by kernel_rfl) (L_slen 9 a rfl Tryz.underlying9 (by kernel_rfl) (L_want (by kernel_rfl) (L_subN ((a).length) 1 (by omega) (by omega) (by kernel_rfl) (by kernel_rfl) (L_want (by kernel_rfl) ?_)))))))))
          have hz := get_some a ((a).length - 1) (by first | omega | (simp only [List.length_drop, List.length_take]; omega)); obtain ⟨c15, hc16⟩ := hz
          have := c15.toNat_lt
          refine L_sindex (k := .i64) a ((a).length - 1) c15 Tryz.underlying9 hc16 (by kernel_rfl) (by kernel_rfl) (L_want (by kernel_rfl) (L_cmp .u8 ((c15.toNat : Nat) : Int) ((32 : Nat) : Int) (c15.toNat = 32) rfl (cmpN_eq c15.toNat 32) (by kernel_rfl) (by kernel_rfl) ?_ ?_))
          · intro h17
            replace h17 : c15.toNat = 32 := by omega
            refine L_want (by kernel_rfl) (L_mv (L_skip (by kernel_rfl) (L_skip (by kernel_rfl) (L_skip (by kernel_rfl) (L_skip (by kernel_rfl) (L_skip (by kernel_rfl) (L_skip (by kernel_rfl) (L_want (by kernel_rfl) (L_pickT (by kernel_rfl) (L_pickT (by kernel_rfl) (L_nil (thenQ_normal (W_true (by kernel_rfl) (W_skip (thenQ_normal (W_block (W_region (L_mv (L_mv (L_slen 9 a rfl Tryz.underlying9 (by kernel_rfl) (L_subN ((a).length) 1 (by omega) (by omega) (by kernel_rfl) (by kernel_rfl) (L_ssto a ((a).length - 1) Tryz.underlying9 (by kernel_rfl) ⟨.i64, by kernel_rfl⟩ (by first | omega | (simp only [List.length_drop, List.length_take]; omega)) (L_as (L_nil (blkQ_normal ?_)))))))))))))))))))))))))
            refine thenQ_normal ⟨_, ?_, (List.take ((a).length - 1) a), rfl, hds, by kernel_rfl, by kernel_rfl, hb, hs, ?_, ?_, ?_⟩
            · (simp only [List.length_take]; omega)
            · simp only [List.length_take]; omega
            · first | exact (trm_right (by assumption) (.inl (by assumption))).trans i3 | exact (trm_right (by assumption) (.inr (by assumption))).trans i3
            · exact trm_first i4
          · intro h18
            replace h18 : c15.toNat ≠ 32 := by omega
            refine L_want (by kernel_rfl) (L_mv (L_want (by kernel_rfl) (L_mv (L_want (by kernel_rfl) (L_mv (L_want (by kernel_rfl) (L_slen 9 a rfl Tryz.underlying9 (by kernel_rfl) (L_want (by kernel_rfl) (L_subN ((a).length) 1 (by omega) (by omega) (by kernel_rfl) (by kernel_rfl) (L_want (by kernel_rfl) ?_))))))))))
            refine L_sindex (k := .i64) a ((a).length - 1) c15 Tryz.underlying9 hc16 (by kernel_rfl) (by kernel_rfl) (L_want (by kernel_rfl) (L_cmp .u8 ((c15.toNat : Nat) : Int) ((9 : Nat) : Int) (c15.toNat = 9) rfl (cmpN_eq c15.toNat 9) (by kernel_rfl) (by kernel_rfl) ?_ ?_))
            · intro h19
              replace h19 : c15.toNat = 9 := by omega
              refine L_want (by kernel_rfl) (L_pickF (by kernel_rfl) (L_pickT (by kernel_rfl) (L_nil (thenQ_normal (W_true (by kernel_rfl) (W_skip (thenQ_normal (W_block (W_region (L_mv (L_mv (L_slen 9 a rfl Tryz.underlying9 (by kernel_rfl) (L_subN ((a).length) 1 (by omega) (by omega) (by kernel_rfl) (by kernel_rfl) (L_ssto a ((a).length - 1) Tryz.underlying9 (by kernel_rfl) ⟨.i64, by kernel_rfl⟩ (by first | omega | (simp only [List.length_drop, List.length_take]; omega)) (L_as (L_nil (blkQ_normal ?_)))))))))))))))))
              refine thenQ_normal ⟨_, ?_, (List.take ((a).length - 1) a), rfl, hds, by kernel_rfl, by kernel_rfl, hb, hs, ?_, ?_, ?_⟩
              · (simp only [List.length_take]; omega)
              · simp only [List.length_take]; omega
              · first | exact (trm_right (by assumption) (.inl (by assumption))).trans i3 | exact (trm_right (by assumption) (.inr (by assumption))).trans i3
              · exact trm_first i4
            · intro h20
              replace h20 : c15.toNat ≠ 9 := by omega
              refine L_want (by kernel_rfl) (L_pickF (by kernel_rfl) (L_pickT (by kernel_rfl) (L_nil (thenQ_normal (W_false (by kernel_rfl) (W_exit (thenQ_exit (thenQ_exit (blkQ_exit (thenQ_normal (W_seq (W_region (L_mv (L_as (L_nil (thenQ_normal (W_ret ?_)))))))))))))))))
              refine end_ret [.tmp 2] [(S a)] rfl hds ⟨by kernel_rfl, trivial⟩ ?_
              have e0 : a = (trmF s) := by (rcases i4 with i4 | ⟨c0, i4, i5⟩; exact (trm_done (.inl i4)).symm.trans i3; exact (trm_done (.inr ⟨c0, _, i4, i5, by assumption, by omega⟩)).symm.trans i3)
              exact ⟨congrArg S e0, hb⟩
        · intro h21
          replace h21 : (a).length ≤ 0 := by omega
          refine L_mv (L_skip (by kernel_rfl) (L_skip (by kernel_rfl) (L_skip (by kernel_rfl) (L_skip (by kernel_rfl) (L_skip (by kernel_rfl) (L_skip (by kernel_rfl) (L_skip (by kernel_rfl) (L_skip (by kernel_rfl) (L_skip (by kernel_rfl) (L_skip (by kernel_rfl) (L_skip (by kernel_rfl) (L_skip (by kernel_rfl) (L_skip (by kernel_rfl) (L_skip (by kernel_rfl) (L_pickF (by kernel_rfl) (L_nil (thenQ_normal (W_false (by kernel_rfl) (W_exit (thenQ_exit (thenQ_exit (blkQ_exit (thenQ_normal (W_seq (W_region (L_mv (L_as (L_nil (thenQ_normal (W_ret ?_))))))))))))))))))))))))))))))
          refine end_ret [.tmp 2] [(S a)] rfl hds ⟨by kernel_rfl, trivial⟩ ?_
          have e0 : a = (trmF s) := by exact (trm_done (.inl (List.eq_nil_of_length_eq_zero (by omega)))).symm.trans i3
          exact ⟨congrArg S e0, hb⟩
  · intro h22
    replace h22 : (a).length ≤ 0 := by omega
    refine L_mv (L_skip (by kernel_rfl) (L_skip (by kernel_rfl) (L_skip (by kernel_rfl) (L_skip (by kernel_rfl) (L_skip (by kernel_rfl) (L_skip (by kernel_rfl) (L_skip (by kernel_rfl) (L_skip (by kernel_rfl) (L_pickF (by kernel_rfl) (L_nil (thenQ_normal (W_false (by kernel_rfl) (W_exit (thenQ_exit (thenQ_exit (blkQ_exit (thenQ_normal (W_seq (W_block ?_)))))))))))))))))))
    refine W_loop (fun m s0 w0 => ∃ (a : List UInt8), (m = a.length) ∧ (s0.ds = []) ∧ (s0.f 2 = (S ([] : List UInt8))) ∧ (s0.f 0 = (S a)) ∧ (Below w.heap.size w w0) ∧ (w.heap.size ≤ w0.heap.size) ∧ (a.length ≤ s.length) ∧ (trmF a = trmF s) ∧ (a = [] ∨ ∃ c, a[0]? = some c ∧ ¬ (c.toNat = 32 ∨ c.toNat = 9))) _ ⟨a, rfl, hds, by kernel_rfl, by kernel_rfl, hb, hs, i1, i3, (by first | exact .inl (List.eq_nil_of_length_eq_zero (by omega)) | exact .inr ⟨_, by assumption, by omega⟩)⟩ ?_
    rintro m23 s24 w25 ⟨a, hm, hds, f_2, f_0, hb, hs, i1, i3, i4⟩
    refine W_set 2 _ f_2 (W_set 0 _ f_0 ?_)
    clear f_2 f_0
    refine W_seq (W_seq (W_region (L_mv (L_slen 9 a rfl Tryz.underlying9 (by kernel_rfl) (L_cmp .i64 (((a).length : Nat) : Int) ((0 : Nat) : Int) (0 < (a).length) rfl (cmpN_gt ((a).length) 0) (by kernel_rfl) (by kernel_rfl) ?_ ?_)))))
    · intro h26
      replace h26 : 0 < (a).length := by omega
      refine L_mv (L_want (by kernel_rfl) (L_mv (L_want (by kernel_rfl) (L_mv (L_want (by kernel_rfl) (L_slen 9 a rfl Tryz.underlying9 (by kernel_rfl) (L_want (by kernel_rfl) (L_subN ((a).length) 1 (by omega) (by omega) (by kernel_rfl) (by kernel_rfl) (L_want (by kernel_rfl) ?_)))))))))
      have hz := get_some a ((a).length - 1) (by first | omega | (simp only [List.length_drop, List.length_take]; omega)); obtain ⟨c27, hc28⟩ := hz
      have := c27.toNat_lt
      refine L_sindex (k := .i64) a ((a).length - 1) c27 Tryz.underlying9 hc28 (by kernel_rfl) (by kernel_rfl) (L_want (by kernel_rfl) (L_cmp .u8 ((c27.toNat : Nat) : Int) ((32 : Nat) : Int) (c27.toNat = 32) rfl (cmpN_eq c27.toNat 32) (by kernel_rfl) (by kernel_rfl) ?_ ?_))
      · intro h29
        replace h29 : c27.toNat = 32 := by omega
        refine L_want (by kernel_rfl) (L_mv (L_skip (by kernel_rfl) (L_skip (by kernel_rfl) (L_skip (by kernel_rfl) (L_skip (by kernel_rfl) (L_skip (by kernel_rfl) (L_skip (by kernel_rfl) (L_want (by kernel_rfl) (L_pickT (by kernel_rfl) (L_pickT (by kernel_rfl) (L_nil (thenQ_normal (W_true (by kernel_rfl) (W_skip (thenQ_normal (W_block (W_region (L_mv (L_mv (L_slen 9 a rfl Tryz.underlying9 (by kernel_rfl) (L_subN ((a).length) 1 (by omega) (by omega) (by kernel_rfl) (by kernel_rfl) (L_ssto a ((a).length - 1) Tryz.underlying9 (by kernel_rfl) ⟨.i64, by kernel_rfl⟩ (by first | omega | (simp only [List.length_drop, List.length_take]; omega)) (L_as (L_nil (blkQ_normal ?_)))))))))))))))))))))))))
        refine thenQ_normal ⟨_, ?_, (List.take ((a).length - 1) a), rfl, hds, by kernel_rfl, by kernel_rfl, hb, hs, ?_, ?_, ?_⟩
        · (simp only [List.length_take]; omega)
        · simp only [List.length_take]; omega
        · first | exact (trm_right (by assumption) (.inl (by assumption))).trans i3 | exact (trm_right (by assumption) (.inr (by assumption))).trans i3
        · exact trm_first i4
      · intro h30
        replace h30 : c27.toNat ≠ 32 := by omega
        refine L_want (by kernel_rfl) (L_mv (L_want (by kernel_rfl) (L_mv (L_want (by kernel_rfl) (L_mv (L_want (by kernel_rfl) (L_slen 9 a rfl Tryz.underlying9 (by kernel_rfl) (L_want (by kernel_rfl) (L_subN ((a).length) 1 (by omega) (by omega) (by kernel_rfl) (by kernel_rfl) (L_want (by kernel_rfl) ?_))))))))))
        refine L_sindex (k := .i64) a ((a).length - 1) c27 Tryz.underlying9 hc28 (by kernel_rfl) (by kernel_rfl) (L_want (by kernel_rfl) (L_cmp .u8 ((c27.toNat : Nat) : Int) ((9 : Nat) : Int) (c27.toNat = 9) rfl (cmpN_eq c27.toNat 9) (by kernel_rfl) (by kernel_rfl) ?_ ?_))
        · intro h31
          replace h31 : c27.toNat = 9 := by omega
          refine L_want (by kernel_rfl) (L_pickF (by kernel_rfl) (L_pickT (by kernel_rfl) (L_nil (thenQ_normal (W_true (by kernel_rfl) (W_skip (thenQ_normal (W_block (W_region (L_mv (L_mv (L_slen 9 a rfl Tryz.underlying9 (by kernel_rfl) (L_subN ((a).length) 1 (by omega) (by omega) (by kernel_rfl) (by kernel_rfl) (L_ssto a ((a).length - 1) Tryz.underlying9 (by kernel_rfl) ⟨.i64, by kernel_rfl⟩ (by first | omega | (simp only [List.length_drop, List.length_take]; omega)) (L_as (L_nil (blkQ_normal ?_)))))))))))))))))
          refine thenQ_normal ⟨_, ?_, (List.take ((a).length - 1) a), rfl, hds, by kernel_rfl, by kernel_rfl, hb, hs, ?_, ?_, ?_⟩
          · (simp only [List.length_take]; omega)
          · simp only [List.length_take]; omega
          · first | exact (trm_right (by assumption) (.inl (by assumption))).trans i3 | exact (trm_right (by assumption) (.inr (by assumption))).trans i3
          · exact trm_first i4
        · intro h32
          replace h32 : c27.toNat ≠ 9 := by omega
          refine L_want (by kernel_rfl) (L_pickF (by kernel_rfl) (L_pickT (by kernel_rfl) (L_nil (thenQ_normal (W_false (by kernel_rfl) (W_exit (thenQ_exit (thenQ_exit (blkQ_exit (thenQ_normal (W_seq (W_region (L_mv (L_as (L_nil (thenQ_normal (W_ret ?_)))))))))))))))))
          refine end_ret [.tmp 2] [(S a)] rfl hds ⟨by kernel_rfl, trivial⟩ ?_
          have e0 : a = (trmF s) := by (rcases i4 with i4 | ⟨c0, i4, i5⟩; exact (trm_done (.inl i4)).symm.trans i3; exact (trm_done (.inr ⟨c0, _, i4, i5, by assumption, by omega⟩)).symm.trans i3)
          exact ⟨congrArg S e0, hb⟩
    · intro h33
      replace h33 : (a).length ≤ 0 := by omega
      refine L_mv (L_skip (by kernel_rfl) (L_skip (by kernel_rfl) (L_skip (by kernel_rfl) (L_skip (by kernel_rfl) (L_skip (by kernel_rfl) (L_skip (by kernel_rfl) (L_skip (by kernel_rfl) (L_skip (by kernel_rfl) (L_skip (by kernel_rfl) (L_skip (by kernel_rfl) (L_skip (by kernel_rfl) (L_skip (by kernel_rfl) (L_skip (by kernel_rfl) (L_skip (by kernel_rfl) (L_pickF (by kernel_rfl) (L_nil (thenQ_normal (W_false (by kernel_rfl) (W_exit (thenQ_exit (thenQ_exit (blkQ_exit (thenQ_normal (W_seq (W_region (L_mv (L_as (L_nil (thenQ_normal (W_ret ?_))))))))))))))))))))))))))))))
      refine end_ret [.tmp 2] [(S a)] rfl hds ⟨by kernel_rfl, trivial⟩ ?_
      have e0 : a = (trmF s) := by exact (trm_done (.inl (List.eq_nil_of_length_eq_zero (by omega)))).symm.trans i3
      exact ⟨congrArg S e0, hb⟩

set_option maxHeartbeats 4000000 in
set_option maxRecDepth 100000 in
theorem c_furrowref03_until (s : List UInt8) (b : UInt8) (w : World) (hs : s.length ≤ 1073741824) :
    Calls Tryz.prog 54 #[(S s), (.int .u8 ((b.toNat : Nat) : Int))] w (Ret fun v w' => v = (.tuple #[(S ((untF b s).1)), (S ((untF b s).2.1)), (.bool ((untF b s).2.2))]) ∧ Below w.heap.size w w') := by
  refine enter (args := [(S s), (.int .u8 ((b.toNat : Nat) : Int))]) Tryz.func54 rfl (by kernel_rfl : _ = 27) (by kernel_rfl) ?_
  have hb := Below.refl w.heap.size w
  have hs : w.heap.size ≤ w.heap.size := Nat.le_refl _
  refine W_seq (W_region (L_as (L_as (L_as (L_nil (thenQ_normal (W_seq (W_seq (W_region (L_as (L_nil (thenQ_normal (W_block ?_)))))))))))))
  refine W_loop (fun m s0 w0 => ∃ (i : Nat), (m = s.length - i) ∧ (s0.ds = []) ∧ (s0.f 0 = (S s)) ∧ (s0.f 1 = (.int .u8 ((b.toNat : Nat) : Int))) ∧ (s0.f 7 = (.int .i64 ((i : Nat) : Int))) ∧ (Below w.heap.size w w0) ∧ (w.heap.size ≤ w0.heap.size) ∧ (i ≤ s.length) ∧ (noB b s 0 i)) _ ⟨0, rfl, by kernel_rfl, by kernel_rfl, by kernel_rfl, by kernel_rfl, hb, hs, by omega, noB_zero _ _ _⟩ ?_
  rintro m1 s2 w3 ⟨i, hm, hds, f_0, f_1, f_7, hb, hs, i1, i2⟩
  refine W_set 0 _ f_0 (W_set 1 _ f_1 (W_set 7 _ f_7 ?_))
  clear f_0 f_1 f_7
  refine W_seq (W_seq (W_region (L_mv (L_mv (L_slen 9 s rfl Tryz.underlying9 (by kernel_rfl) (L_cmp .i64 ((i : Nat) : Int) (((s).length : Nat) : Int) (i < (s).length) rfl (cmpN_lt i ((s).length)) (by kernel_rfl) (by kernel_rfl) ?_ ?_))))))
  · intro h4
    replace h4 : i < (s).length := by omega
    refine L_nil (thenQ_normal (W_true (by kernel_rfl) (W_skip (thenQ_normal (W_seq (W_block (W_seq (W_region (L_mv (L_mv ?_))))))))))
    have hz := get_some s i (by omega); obtain ⟨c5, hc6⟩ := hz
    have := c5.toNat_lt
    refine L_sindex (k := .i64) s i c5 Tryz.underlying9 hc6 (by kernel_rfl) (by kernel_rfl) (L_mv (L_cmp .u8 ((c5.toNat : Nat) : Int) ((b.toNat : Nat) : Int) (c5.toNat = b.toNat) rfl (cmpN_eq c5.toNat b.toNat) (by kernel_rfl) (by kernel_rfl) ?_ ?_))
    · intro h7
      replace h7 : c5.toNat = b.toNat := by omega
      refine L_nil (thenQ_normal (W_true (by kernel_rfl) (W_seq (W_quiet (by kernel_rfl) (by kernel_rfl) (Lq_mv (Lq_mv (Lq_ssto s i Tryz.underlying9 (by kernel_rfl) ⟨.i64, by kernel_rfl⟩ (by omega) (Lq_mv (Lq_mv (Lq_addN i 1 (by omega) (by kernel_rfl) (by kernel_rfl) (Lq_ssfrom s (i + 1) Tryz.underlying9 (by kernel_rfl) ⟨.i64, by kernel_rfl⟩ (by omega) (Lq_as (Lq_as (Lq_as (Lq_nil ?_)))))))))))))))
      intro w8 hB9
      replace hb := hb.trans (hB9.mono hs)
      replace hs := Nat.le_trans hs (hB9.size)
      refine thenQ_normal (W_ret (blkQ_ret (thenQ_ret (thenQ_ret (blkQ_ret (thenQ_ret ?_))))))
      refine end_ret [.tmp 4, .tmp 5, .tmp 6] [(S (List.take i s)), (S (List.drop (i + 1) s)), (.bool true)] rfl hds ⟨by kernel_rfl, by kernel_rfl, by kernel_rfl, trivial⟩ ?_
      have hE : ((List.take i s) = (untF b s).1) ∧ ((List.drop (i + 1) s) = (untF b s).2.1) ∧ (true = (untF b s).2.2) := ⟨(by first | (rw [unt_hit i2 (by assumption) (by assumption)]; done) | (rw [unt_none i2 (by omega)]; done)), (by first | (rw [unt_hit i2 (by assumption) (by assumption)]; done) | (rw [unt_none i2 (by omega)]; done)), (by first | (rw [unt_hit i2 (by assumption) (by assumption)]; done) | (rw [unt_none i2 (by omega)]; done))⟩
      exact ⟨tup3 (congrArg S hE.1) (congrArg S hE.2.1) (congrArg Value.bool hE.2.2), hb⟩
    · intro h10
      replace h10 : c5.toNat ≠ b.toNat := by omega
      refine L_nil (thenQ_normal (W_false (by kernel_rfl) (W_skip (blkQ_normal (thenQ_normal (W_region (L_mv (L_addN i 1 (by omega) (by kernel_rfl) (by kernel_rfl) (L_as (L_nil ?_))))))))))
      refine thenQ_normal ⟨_, ?_, (i + 1), rfl, hds, by kernel_rfl, by kernel_rfl, by kernel_rfl, hb, hs, ?_, ?_⟩
      · omega
      · omega
      · exact noB_succ i2 (by assumption) (by assumption)
  · intro h11
    replace h11 : (s).length ≤ i := by omega
    refine L_nil (thenQ_normal (W_false (by kernel_rfl) (W_exit (thenQ_exit (thenQ_exit (blkQ_exit (thenQ_normal (W_seq (W_region (L_mv (L_as (L_as (L_as (L_nil (thenQ_normal (W_ret ?_))))))))))))))))
    refine end_ret [.tmp 4, .tmp 5, .tmp 6] [(S s), (S ([] : List UInt8)), (.bool false)] rfl hds ⟨by kernel_rfl, by kernel_rfl, by kernel_rfl, trivial⟩ ?_
    have hE : (s = (untF b s).1) ∧ (([] : List UInt8) = (untF b s).2.1) ∧ (false = (untF b s).2.2) := ⟨(by first | (rw [unt_hit i2 (by assumption) (by assumption)]; done) | (rw [unt_none i2 (by omega)]; done)), (by first | (rw [unt_hit i2 (by assumption) (by assumption)]; done) | (rw [unt_none i2 (by omega)]; done)), (by first | (rw [unt_hit i2 (by assumption) (by assumption)]; done) | (rw [unt_none i2 (by omega)]; done))⟩
    exact ⟨tup3 (congrArg S hE.1) (congrArg S hE.2.1) (congrArg Value.bool hE.2.2), hb⟩

set_option maxHeartbeats 4000000 in
set_option maxRecDepth 100000 in
theorem c_furrowref03_Parts (s : List UInt8) (w : World) (hs : s.length ≤ 1073741824) :
    Calls Tryz.prog 52 #[(S s)] w (Ret fun v w' => v = (.tuple #[(S (headF s)), (S (noteF s))]) ∧ Below w.heap.size w w') := by
  refine enter (args := [(S s)]) Tryz.func52 rfl (by kernel_rfl : _ = 17) (by kernel_rfl) ?_
  have hb := Below.refl w.heap.size w
  have hs : w.heap.size ≤ w.heap.size := Nat.le_refl _
  refine W_seq (W_region (L_as (L_as (L_nil (thenQ_normal (W_seq (W_region (L_mv (L_call 54 [(S s), (.int .u8 35)] (by kernel_rfl) (by kernel_rfl) (c_furrowref03_until s 35 _ (by omega)) ?_)))))))))
  rintro _ w1 ⟨rfl, hB2⟩
  replace hb := hb.trans (hB2.mono hs)
  replace hs := Nat.le_trans hs (hB2.size)
  have := unt_len 35 s
  refine L_mv (L_run (S ((untF 35 s).1)) (by kernel_rfl) (by kernel_rfl) (L_run (S ((untF 35 s).2.1)) (by kernel_rfl) (by kernel_rfl) (L_run (.bool ((untF 35 s).2.2)) (by kernel_rfl) (by kernel_rfl) (L_as (L_as (L_as (L_nil (thenQ_normal (W_seq (W_region (L_mv (L_call 64 [(S ((untF 35 s).1))] (by kernel_rfl) (by kernel_rfl) (c_furrowref03_Trim ((untF 35 s).1) _ (by omega)) ?_))))))))))))
  rintro _ w4 ⟨rfl, hB5⟩
  replace hb := hb.trans (hB5.mono hs)
  replace hs := Nat.le_trans hs (hB5.size)
  have := trm_len ((untF 35 s).1)
  refine L_mv (L_call 64 [(S ((untF 35 s).2.1))] (by kernel_rfl) (by kernel_rfl) (c_furrowref03_Trim ((untF 35 s).2.1) _ (by omega)) ?_)
  rintro _ w7 ⟨rfl, hB8⟩
  replace hb := hb.trans (hB8.mono hs)
  replace hs := Nat.le_trans hs (hB8.size)
  have := trm_len ((untF 35 s).2.1)
  refine L_as (L_as (L_nil (thenQ_normal (W_ret ?_))))
  refine end_ret [.tmp 2, .tmp 3] [(S (trmF ((untF 35 s).1))), (S (trmF ((untF 35 s).2.1)))] rfl rfl ⟨by kernel_rfl, by kernel_rfl, trivial⟩ ?_
  have hE : ((trmF ((untF 35 s).1)) = (headF s)) ∧ ((trmF ((untF 35 s).2.1)) = (noteF s)) := ⟨(by first | rw [headF_unt] | rw [noteF_unt]), (by first | rw [headF_unt] | rw [noteF_unt])⟩
  exact ⟨tup2 (congrArg S hE.1) (congrArg S hE.2), hb⟩

set_option maxHeartbeats 4000000 in
set_option maxRecDepth 100000 in
theorem c_furrowref03_Fields (s : List UInt8) (w : World) (hs : s.length ≤ 1073741824) :
    Calls Tryz.prog 56 #[(S s)] w (Ret fun v w' => ∃ (q0 : Value), v = q0 ∧ Row w' w.heap.size 9 1 encStr q0 (fieldsF s) ∧ Below w.heap.size w w') := by
  refine enter (args := [(S s)]) Tryz.func56 rfl (by kernel_rfl : _ = 25) (by kernel_rfl) ?_
  have hb := Below.refl w.heap.size w
  have hs : w.heap.size ≤ w.heap.size := Nat.le_refl _
  refine W_seq (W_region (L_as (L_nil (thenQ_normal (W_seq (W_seq (W_region (L_mv (L_call 64 [(S s)] (by kernel_rfl) (by kernel_rfl) (c_furrowref03_Trim s _ (by omega)) ?_)))))))))
  rintro _ w1 ⟨rfl, hB2⟩
  replace hb := hb.trans (hB2.mono hs)
  replace hs := Nat.le_trans hs (hB2.size)
  have := trm_len s
  refine L_seq (trmF s) ([] : List UInt8) rfl (by kernel_rfl) (by kernel_rfl) ?_ ?_
  · intro h4
    refine L_nil (thenQ_normal (W_true (by kernel_rfl) (W_seq (W_region (L_as (L_nil (thenQ_normal (W_ret (thenQ_ret ?_)))))))))
    refine end_ret [.tmp 2] [(.slice none 0 0)] rfl rfl ⟨by kernel_rfl, trivial⟩ ?_
    have e51 : ([] : List (List UInt8)) = fieldsF s := by first | exact (fields_nil (by assumption)).symm | exact fld_last (by assumption) i3 i4
    exact ⟨(.slice none 0 0), rfl, (Row.nil _ _ _ _ _).cast e51, hb⟩
  · intro h5
    refine L_nil (thenQ_normal (W_false (by kernel_rfl) (W_skip (thenQ_normal (W_seq (W_region (L_as (L_nil (thenQ_normal (W_block ?_))))))))))
    refine W_loop (fun m s0 w0 => ∃ (t : List UInt8) (acc : List (List UInt8)) (v_3 : Value), (m = t.length) ∧ (s0.ds = []) ∧ (s0.f 0 = (S t)) ∧ (s0.f 3 = v_3) ∧ (Row w0 w.heap.size 9 1 encStr v_3 acc) ∧ (Below w.heap.size w w0) ∧ (w.heap.size ≤ w0.heap.size) ∧ (t.length ≤ s.length) ∧ (acc.length + t.length ≤ s.length) ∧ (acc ++ (splF 59 t).map trmF = (splF 59 s).map trmF) ∧ (trmF s ≠ [])) _ ⟨s, [], (.slice none 0 0), rfl, by kernel_rfl, by kernel_rfl, by kernel_rfl, Row.nil _ _ _ _ _, hb, hs, (Nat.le_refl _), (by simp), rfl, (by assumption)⟩ ?_
    rintro m6 s7 w8 ⟨t, acc, v_3, hm, hds, f_0, f_3, r_3, hb, hs, i1, i5, i3, i4⟩
    refine W_set 0 _ f_0 (W_set 3 _ f_3 ?_)
    clear f_0 f_3
    refine W_block (W_seq (W_region (L_mv (L_call 54 [(S t), (.int .u8 59)] (by kernel_rfl) (by kernel_rfl) (c_furrowref03_until t 59 _ (by omega)) ?_))))
    rintro _ w9 ⟨rfl, hB10⟩
    replace hb := hb.trans (hB10.mono hs)
    replace hs := Nat.le_trans hs (hB10.size)
    replace r_3 := r_3.below hB10
    have := unt_len 59 t
    refine L_mv (L_run (S ((untF 59 t).1)) (by kernel_rfl) (by kernel_rfl) (L_run (S ((untF 59 t).2.1)) (by kernel_rfl) (by kernel_rfl) (L_run (.bool ((untF 59 t).2.2)) (by kernel_rfl) (by kernel_rfl) (put_split ((untF 59 t).2.2) ?_ ?_))))
    · intro h12
      refine L_as (L_as (L_as (L_nil (thenQ_normal (W_seq (W_region (L_mv (L_mv (L_call 64 [(S ((untF 59 t).1))] (by kernel_rfl) (by kernel_rfl) (c_furrowref03_Trim ((untF 59 t).1) _ (by omega)) ?_)))))))))
      rintro _ w13 ⟨rfl, hB14⟩
      replace hb := hb.trans (hB14.mono hs)
      replace hs := Nat.le_trans hs (hB14.size)
      replace r_3 := r_3.below hB14
      have := trm_len ((untF 59 t).1)
      refine L_app el47 w.heap.size v_3 acc (trmF ((untF 59 t).1)) hs r_3 (by omega) (by kernel_rfl) rfl rfl (by kernel_rfl) rfl (by kernel_rfl) (by kernel_rfl) ?_
      intro v16 w17 hr18 hg19 how20
      replace hb := hb.grown hg19 hs (fun k hk => (World.ownsRow.lt r_3 k hk).1)
      replace hs := Nat.le_trans hs (hg19.size)
      replace r_3 := hr18
      refine L_as (L_nil (thenQ_normal (W_seq (W_seq (W_region (L_mv (L_not true (by kernel_rfl) (L_nil (thenQ_normal (W_false (by kernel_rfl) (W_skip (thenQ_normal (W_region (L_mv (L_as (L_nil (blkQ_normal ?_)))))))))))))))))
      refine thenQ_normal ⟨_, ?_, ((untF 59 t).2.1), (acc ++ [(trmF ((untF 59 t).1))]), v16, rfl, hds, by kernel_rfl, by kernel_rfl, r_3, hb, hs, ?_, ?_, ?_, ?_⟩
      · (have := unt_more (b := 59) (by assumption); omega)
      · omega
      · have := unt_more (b := 59) (by assumption); simp only [List.length_append, List.length_cons, List.length_nil]; omega
      · exact fld_more (by assumption) i3
      · exact i4
    · intro h21
      refine L_as (L_as (L_as (L_nil (thenQ_normal (W_seq (W_region (L_mv (L_mv (L_call 64 [(S ((untF 59 t).1))] (by kernel_rfl) (by kernel_rfl) (c_furrowref03_Trim ((untF 59 t).1) _ (by omega)) ?_)))))))))
      rintro _ w22 ⟨rfl, hB23⟩
      replace hb := hb.trans (hB23.mono hs)
      replace hs := Nat.le_trans hs (hB23.size)
      replace r_3 := r_3.below hB23
      have := trm_len ((untF 59 t).1)
      refine L_app el47 w.heap.size v_3 acc (trmF ((untF 59 t).1)) hs r_3 (by omega) (by kernel_rfl) rfl rfl (by kernel_rfl) rfl (by kernel_rfl) (by kernel_rfl) ?_
      intro v25 w26 hr27 hg28 how29
      replace hb := hb.grown hg28 hs (fun k hk => (World.ownsRow.lt r_3 k hk).1)
      replace hs := Nat.le_trans hs (hg28.size)
      replace r_3 := hr27
      refine L_as (L_nil (thenQ_normal (W_seq (W_seq (W_region (L_mv (L_not false (by kernel_rfl) (L_nil (thenQ_normal (W_true (by kernel_rfl) (W_seq (W_region (L_mv (L_as (L_nil (thenQ_normal (W_ret (thenQ_ret (blkQ_ret (thenQ_ret (blkQ_ret ?_)))))))))))))))))))))
      refine end_ret [.tmp 2] [v25] rfl hds ⟨by kernel_rfl, trivial⟩ ?_
      have e51 : (acc ++ [(trmF ((untF 59 t).1))]) = fieldsF s := by first | exact (fields_nil (by assumption)).symm | exact fld_last (by assumption) i3 i4
      exact ⟨v25, rfl, r_3.cast e51, hb⟩

set_option maxHeartbeats 4000000 in
set_option maxRecDepth 100000 in
theorem c_furrowref03_Cut (s : List UInt8) (w : World) (hs : s.length ≤ 1073741824) :
    Calls Tryz.prog 53 #[(S s)] w (Ret fun v w' => ∃ (q0 : Value), v = (.tuple #[q0, (S ((cutF s).2))]) ∧ Row w' w.heap.size 9 1 encStr q0 ((cutF s).1) ∧ Below w.heap.size w w') := by
  refine enter (args := [(S s)]) Tryz.func53 rfl (by kernel_rfl : _ = 14) (by kernel_rfl) ?_
  have hb := Below.refl w.heap.size w
  have hs : w.heap.size ≤ w.heap.size := Nat.le_refl _
  refine W_seq (W_region (L_as (L_as (L_nil (thenQ_normal (W_seq (W_region (L_mv (L_call 52 [(S s)] (by kernel_rfl) (by kernel_rfl) (c_furrowref03_Parts s _ (by omega)) ?_)))))))))
  rintro _ w1 ⟨rfl, hB2⟩
  replace hb := hb.trans (hB2.mono hs)
  replace hs := Nat.le_trans hs (hB2.size)
  have := headF_len s
  have := noteF_len s
  refine L_mv (L_run (S (headF s)) (by kernel_rfl) (by kernel_rfl) (L_run (S (noteF s)) (by kernel_rfl) (by kernel_rfl) (L_as (L_as (L_nil (thenQ_normal (W_seq (W_region (L_mv (L_call 56 [(S (headF s))] (by kernel_rfl) (by kernel_rfl) (c_furrowref03_Fields (headF s) _ (by omega)) ?_))))))))))
  rintro q4 w5 ⟨_, rfl, r_q4, hB6⟩
  replace r_q4 := r_q4.base hs
  replace hb := hb.trans (hB6.mono hs)
  replace hs := Nat.le_trans hs (hB6.size)
  refine L_mv (L_as (L_as (L_nil (thenQ_normal (W_ret ?_)))))
  refine end_ret [.tmp 2, .tmp 3] [q4, (S (noteF s))] rfl rfl ⟨by kernel_rfl, by kernel_rfl, trivial⟩ ?_
  have hE : ((noteF s) = (cutF s).2) ∧ (fieldsF (headF s) = (cutF s).1) := ⟨(by first | exact (cutF_head s).symm | rfl), (by first | exact (cutF_head s).symm | rfl)⟩
  exact ⟨q4, tup2 (rfl) (congrArg S hE.1), r_q4.cast hE.2, hb⟩

set_option maxHeartbeats 4000000 in
set_option maxRecDepth 100000 in
theorem c_furrowref03_named (s : List UInt8) (w : World) (hs : s.length ≤ 1073741824) :
    Calls Tryz.prog 55 #[(S s)] w (Ret fun v w' => v = (.bool (nameF s)) ∧ Below w.heap.size w w') := by
  refine enter (args := [(S s)]) Tryz.func55 rfl (by kernel_rfl : _ = 47) (by kernel_rfl) ?_
  have hb := Below.refl w.heap.size w
  have hs : w.heap.size ≤ w.heap.size := Nat.le_refl _
  refine W_seq (W_region (L_as (L_nil (thenQ_normal (W_seq (W_seq (W_region (L_as (L_nil (thenQ_normal (W_block ?_)))))))))))
  refine W_loop (fun m s0 w0 => ∃ (i : Nat), (m = s.length - i) ∧ (s0.ds = []) ∧ (s0.f 0 = (S s)) ∧ (s0.f 3 = (.int .i64 ((i : Nat) : Int))) ∧ (Below w.heap.size w w0) ∧ (w.heap.size ≤ w0.heap.size) ∧ (i ≤ s.length) ∧ ((s.drop i).all nmB = s.all nmB)) _ ⟨0, rfl, by kernel_rfl, by kernel_rfl, by kernel_rfl, hb, hs, by omega, rfl⟩ ?_
  rintro m1 s2 w3 ⟨i, hm, hds, f_0, f_3, hb, hs, i1, i3⟩
  refine W_set 0 _ f_0 (W_set 3 _ f_3 ?_)
  clear f_0 f_3
  refine W_seq (W_seq (W_region (L_mv (L_mv (L_slen 9 s rfl Tryz.underlying9 (by kernel_rfl) (L_cmp .i64 ((i : Nat) : Int) (((s).length : Nat) : Int) (i < (s).length) rfl (cmpN_lt i ((s).length)) (by kernel_rfl) (by kernel_rfl) ?_ ?_))))))
  · intro h4
    replace h4 : i < (s).length := by omega
    refine L_nil (thenQ_normal (W_true (by kernel_rfl) (W_skip (thenQ_normal (W_seq (W_block (W_seq (W_region (L_mv (L_mv ?_))))))))))
    have hz := get_some s i (by omega); obtain ⟨c5, hc6⟩ := hz
    have := c5.toNat_lt
    refine L_sindex (k := .i64) s i c5 Tryz.underlying9 hc6 (by kernel_rfl) (by kernel_rfl) (L_as (L_nil (thenQ_normal (W_seq (W_region (L_mv (L_cmp .u8 ((c5.toNat : Nat) : Int) ((65 : Nat) : Int) (65 ≤ c5.toNat) rfl (cmpN_ge c5.toNat 65) (by kernel_rfl) (by kernel_rfl) ?_ ?_)))))))
    · intro h7
      replace h7 : 65 ≤ c5.toNat := by omega
      refine L_mv (L_want (by kernel_rfl) (L_mv (L_want (by kernel_rfl) (L_cmp .u8 ((c5.toNat : Nat) : Int) ((90 : Nat) : Int) (c5.toNat ≤ 90) rfl (cmpN_le c5.toNat 90) (by kernel_rfl) (by kernel_rfl) ?_ ?_))))
      · intro h8
        replace h8 : c5.toNat ≤ 90 := by omega
        refine L_pickT (by kernel_rfl) (L_mv (L_skip (by kernel_rfl) (L_skip (by kernel_rfl) (L_skip (by kernel_rfl) (L_skip (by kernel_rfl) (L_skip (by kernel_rfl) (L_skip (by kernel_rfl) (L_pickT (by kernel_rfl) (L_mv (L_skip (by kernel_rfl) (L_skip (by kernel_rfl) (L_skip (by kernel_rfl) (L_skip (by kernel_rfl) (L_skip (by kernel_rfl) (L_skip (by kernel_rfl) (L_pickT (by kernel_rfl) (L_mv (L_skip (by kernel_rfl) (L_skip (by kernel_rfl) (L_pickT (by kernel_rfl) (L_mv (L_skip (by kernel_rfl) (L_skip (by kernel_rfl) (L_pickT (by kernel_rfl) (L_not true (by kernel_rfl) (L_nil (thenQ_normal (W_false (by kernel_rfl) (W_skip (blkQ_normal (thenQ_normal (W_region (L_mv (L_addN i 1 (by omega) (by kernel_rfl) (by kernel_rfl) (L_as (L_nil ?_))))))))))))))))))))))))))))))))))))
        refine thenQ_normal ⟨_, ?_, (i + 1), rfl, hds, by kernel_rfl, by kernel_rfl, hb, hs, ?_, ?_⟩
        · omega
        · omega
        · exact nmb_on (by assumption) (by omega) i3
      · intro h9
        replace h9 : 90 < c5.toNat := by omega
        refine L_pickT (by kernel_rfl) (L_mv (L_want (by kernel_rfl) (L_mv (L_want (by kernel_rfl) (L_cmp .u8 ((c5.toNat : Nat) : Int) ((97 : Nat) : Int) (97 ≤ c5.toNat) rfl (cmpN_ge c5.toNat 97) (by kernel_rfl) (by kernel_rfl) ?_ ?_)))))
        · intro h10
          replace h10 : 97 ≤ c5.toNat := by omega
          refine L_want (by kernel_rfl) (L_mv (L_want (by kernel_rfl) (L_mv (L_want (by kernel_rfl) (L_cmp .u8 ((c5.toNat : Nat) : Int) ((122 : Nat) : Int) (c5.toNat ≤ 122) rfl (cmpN_le c5.toNat 122) (by kernel_rfl) (by kernel_rfl) ?_ ?_)))))
          · intro h11
            replace h11 : c5.toNat ≤ 122 := by omega
            refine L_want (by kernel_rfl) (L_pickT (by kernel_rfl) (L_pickF (by kernel_rfl) (L_mv (L_skip (by kernel_rfl) (L_skip (by kernel_rfl) (L_skip (by kernel_rfl) (L_skip (by kernel_rfl) (L_skip (by kernel_rfl) (L_skip (by kernel_rfl) (L_pickT (by kernel_rfl) (L_mv (L_skip (by kernel_rfl) (L_skip (by kernel_rfl) (L_pickT (by kernel_rfl) (L_mv (L_skip (by kernel_rfl) (L_skip (by kernel_rfl) (L_pickT (by kernel_rfl) (L_not true (by kernel_rfl) (L_nil (thenQ_normal (W_false (by kernel_rfl) (W_skip (blkQ_normal (thenQ_normal (W_region (L_mv (L_addN i 1 (by omega) (by kernel_rfl) (by kernel_rfl) (L_as (L_nil ?_))))))))))))))))))))))))))))))
            refine thenQ_normal ⟨_, ?_, (i + 1), rfl, hds, by kernel_rfl, by kernel_rfl, hb, hs, ?_, ?_⟩
            · omega
            · omega
            · exact nmb_on (by assumption) (by omega) i3
          · intro h12
            replace h12 : 122 < c5.toNat := by omega
            refine L_want (by kernel_rfl) (L_pickT (by kernel_rfl) (L_pickF (by kernel_rfl) (L_mv (L_want (by kernel_rfl) (L_mv (L_want (by kernel_rfl) (L_cmp .u8 ((c5.toNat : Nat) : Int) ((48 : Nat) : Int) (48 ≤ c5.toNat) rfl (cmpN_ge c5.toNat 48) (by kernel_rfl) (by kernel_rfl) ?_ ?_)))))))
            · intro h13
              replace h13 : 48 ≤ c5.toNat := by omega
              refine L_want (by kernel_rfl) (L_mv (L_want (by kernel_rfl) (L_mv (L_want (by kernel_rfl) (L_cmp .u8 ((c5.toNat : Nat) : Int) ((57 : Nat) : Int) (c5.toNat ≤ 57) rfl (cmpN_le c5.toNat 57) (by kernel_rfl) (by kernel_rfl) ?_ ?_)))))
              · intro h14
                replace h14 : c5.toNat ≤ 57 := by omega
                refine L_want (by kernel_rfl) (L_pickT (by kernel_rfl) (L_pickF (by kernel_rfl) (L_mv (L_skip (by kernel_rfl) (L_skip (by kernel_rfl) (L_pickT (by kernel_rfl) (L_mv (L_skip (by kernel_rfl) (L_skip (by kernel_rfl) (L_pickT (by kernel_rfl) (L_not true (by kernel_rfl) (L_nil (thenQ_normal (W_false (by kernel_rfl) (W_skip (blkQ_normal (thenQ_normal (W_region (L_mv (L_addN i 1 (by omega) (by kernel_rfl) (by kernel_rfl) (L_as (L_nil ?_))))))))))))))))))))))
                refine thenQ_normal ⟨_, ?_, (i + 1), rfl, hds, by kernel_rfl, by kernel_rfl, hb, hs, ?_, ?_⟩
                · omega
                · omega
                · exact nmb_on (by assumption) (by omega) i3
              · intro h15
                replace h15 : 57 < c5.toNat := by omega
                refine L_want (by kernel_rfl) (L_pickT (by kernel_rfl) (L_pickF (by kernel_rfl) (L_mv (L_want (by kernel_rfl) (L_mv (L_want (by kernel_rfl) (L_cmp .u8 ((c5.toNat : Nat) : Int) ((95 : Nat) : Int) (c5.toNat = 95) rfl (cmpN_eq c5.toNat 95) (by kernel_rfl) (by kernel_rfl) ?_ ?_)))))))
                · intro h16
                  replace h16 : c5.toNat = 95 := by omega
                  refine L_pickF (by kernel_rfl) (L_mv (L_skip (by kernel_rfl) (L_skip (by kernel_rfl) (L_pickT (by kernel_rfl) (L_not true (by kernel_rfl) (L_nil (thenQ_normal (W_false (by kernel_rfl) (W_skip (blkQ_normal (thenQ_normal (W_region (L_mv (L_addN i 1 (by omega) (by kernel_rfl) (by kernel_rfl) (L_as (L_nil ?_))))))))))))))))
                  refine thenQ_normal ⟨_, ?_, (i + 1), rfl, hds, by kernel_rfl, by kernel_rfl, hb, hs, ?_, ?_⟩
                  · omega
                  · omega
                  · exact nmb_on (by assumption) (by omega) i3
                · intro h17
                  replace h17 : c5.toNat ≠ 95 := by omega
                  refine L_pickF (by kernel_rfl) (L_mv (L_want (by kernel_rfl) (L_mv (L_want (by kernel_rfl) (L_cmp .u8 ((c5.toNat : Nat) : Int) ((45 : Nat) : Int) (c5.toNat = 45) rfl (cmpN_eq c5.toNat 45) (by kernel_rfl) (by kernel_rfl) ?_ ?_)))))
                  · intro h18
                    replace h18 : c5.toNat = 45 := by omega
                    refine L_pickF (by kernel_rfl) (L_not true (by kernel_rfl) (L_nil (thenQ_normal (W_false (by kernel_rfl) (W_skip (blkQ_normal (thenQ_normal (W_region (L_mv (L_addN i 1 (by omega) (by kernel_rfl) (by kernel_rfl) (L_as (L_nil ?_))))))))))))
                    refine thenQ_normal ⟨_, ?_, (i + 1), rfl, hds, by kernel_rfl, by kernel_rfl, hb, hs, ?_, ?_⟩
                    · omega
                    · omega
                    · exact nmb_on (by assumption) (by omega) i3
                  · intro h19
                    replace h19 : c5.toNat ≠ 45 := by omega
                    refine L_pickF (by kernel_rfl) (L_not false (by kernel_rfl) (L_nil (thenQ_normal (W_true (by kernel_rfl) (W_seq (W_region (L_as (L_nil (thenQ_normal (W_ret (blkQ_ret (thenQ_ret (thenQ_ret (blkQ_ret (thenQ_ret ?_)))))))))))))))
                    refine end_ret [.tmp 2] [(.bool false)] rfl hds ⟨by kernel_rfl, trivial⟩ ?_
                    have e0 : false = nameF s := by first | exact (nmb_off (by assumption) (by omega) i3).symm | (rw [nm_end (by omega) i3]; simp [*]; done)
                    exact ⟨congrArg Value.bool e0, hb⟩
            · intro h20
              replace h20 : c5.toNat < 48 := by omega
              refine L_want (by kernel_rfl) (L_mv (L_skip (by kernel_rfl) (L_skip (by kernel_rfl) (L_want (by kernel_rfl) (L_pickF (by kernel_rfl) (L_pickF (by kernel_rfl) (L_mv (L_want (by kernel_rfl) (L_mv (L_want (by kernel_rfl) (L_cmp .u8 ((c5.toNat : Nat) : Int) ((95 : Nat) : Int) (c5.toNat = 95) rfl (cmpN_eq c5.toNat 95) (by kernel_rfl) (by kernel_rfl) ?_ ?_)))))))))))
              · intro h21
                replace h21 : c5.toNat = 95 := by omega
                refine L_pickF (by kernel_rfl) (L_mv (L_skip (by kernel_rfl) (L_skip (by kernel_rfl) (L_pickT (by kernel_rfl) (L_not true (by kernel_rfl) (L_nil (thenQ_normal (W_false (by kernel_rfl) (W_skip (blkQ_normal (thenQ_normal (W_region (L_mv (L_addN i 1 (by omega) (by kernel_rfl) (by kernel_rfl) (L_as (L_nil ?_))))))))))))))))
                refine thenQ_normal ⟨_, ?_, (i + 1), rfl, hds, by kernel_rfl, by kernel_rfl, hb, hs, ?_, ?_⟩
                · omega
                · omega
                · exact nmb_on (by assumption) (by omega) i3
              · intro h22
                replace h22 : c5.toNat ≠ 95 := by omega
                refine L_pickF (by kernel_rfl) (L_mv (L_want (by kernel_rfl) (L_mv (L_want (by kernel_rfl) (L_cmp .u8 ((c5.toNat : Nat) : Int) ((45 : Nat) : Int) (c5.toNat = 45) rfl (cmpN_eq c5.toNat 45) (by kernel_rfl) (by kernel_rfl) ?_ ?_)))))
                · intro h23
                  replace h23 : c5.toNat = 45 := by omega
                  refine L_pickF (by kernel_rfl) (L_not true (by kernel_rfl) (L_nil (thenQ_normal (W_false (by kernel_rfl) (W_skip (blkQ_normal (thenQ_normal (W_region (L_mv (L_addN i 1 (by omega) (by kernel_rfl) (by kernel_rfl) (L_as (L_nil ?_))))))))))))
                  refine thenQ_normal ⟨_, ?_, (i + 1), rfl, hds, by kernel_rfl, by kernel_rfl, hb, hs, ?_, ?_⟩
                  · omega
                  · omega
                  · exact nmb_on (by assumption) (by omega) i3
                · intro h24
                  replace h24 : c5.toNat ≠ 45 := by omega
                  refine L_pickF (by kernel_rfl) (L_not false (by kernel_rfl) (L_nil (thenQ_normal (W_true (by kernel_rfl) (W_seq (W_region (L_as (L_nil (thenQ_normal (W_ret (blkQ_ret (thenQ_ret (thenQ_ret (blkQ_ret (thenQ_ret ?_)))))))))))))))
                  refine end_ret [.tmp 2] [(.bool false)] rfl hds ⟨by kernel_rfl, trivial⟩ ?_
                  have e0 : false = nameF s := by first | exact (nmb_off (by assumption) (by omega) i3).symm | (rw [nm_end (by omega) i3]; simp [*]; done)
                  exact ⟨congrArg Value.bool e0, hb⟩
        · intro h25
          replace h25 : c5.toNat < 97 := by omega
          refine L_want (by kernel_rfl) (L_mv (L_skip (by kernel_rfl) (L_skip (by kernel_rfl) (L_want (by kernel_rfl) (L_pickF (by kernel_rfl) (L_pickF (by kernel_rfl) (L_mv (L_want (by kernel_rfl) (L_mv (L_want (by kernel_rfl) (L_cmp .u8 ((c5.toNat : Nat) : Int) ((48 : Nat) : Int) (48 ≤ c5.toNat) rfl (cmpN_ge c5.toNat 48) (by kernel_rfl) (by kernel_rfl) ?_ ?_)))))))))))
          · intro h26
            replace h26 : 48 ≤ c5.toNat := by omega
            refine L_want (by kernel_rfl) (L_mv (L_want (by kernel_rfl) (L_mv (L_want (by kernel_rfl) (L_cmp .u8 ((c5.toNat : Nat) : Int) ((57 : Nat) : Int) (c5.toNat ≤ 57) rfl (cmpN_le c5.toNat 57) (by kernel_rfl) (by kernel_rfl) ?_ ?_)))))
            · intro h27
              replace h27 : c5.toNat ≤ 57 := by omega
              refine L_want (by kernel_rfl) (L_pickT (by kernel_rfl) (L_pickF (by kernel_rfl) (L_mv (L_skip (by kernel_rfl) (L_skip (by kernel_rfl) (L_pickT (by kernel_rfl) (L_mv (L_skip (by kernel_rfl) (L_skip (by kernel_rfl) (L_pickT (by kernel_rfl) (L_not true (by kernel_rfl) (L_nil (thenQ_normal (W_false (by kernel_rfl) (W_skip (blkQ_normal (thenQ_normal (W_region (L_mv (L_addN i 1 (by omega) (by kernel_rfl) (by kernel_rfl) (L_as (L_nil ?_))))))))))))))))))))))
              refine thenQ_normal ⟨_, ?_, (i + 1), rfl, hds, by kernel_rfl, by kernel_rfl, hb, hs, ?_, ?_⟩
              · omega
              · omega
              · exact nmb_on (by assumption) (by omega) i3
            · intro h28
              replace h28 : 57 < c5.toNat := by omega
              refine L_want (by kernel_rfl) (L_pickT (by kernel_rfl) (L_pickF (by kernel_rfl) (L_mv (L_want (by kernel_rfl) (L_mv (L_want (by kernel_rfl) (L_cmp .u8 ((c5.toNat : Nat) : Int) ((95 : Nat) : Int) (c5.toNat = 95) rfl (cmpN_eq c5.toNat 95) (by kernel_rfl) (by kernel_rfl) ?_ ?_)))))))
              · intro h29
                replace h29 : c5.toNat = 95 := by omega
                refine L_pickF (by kernel_rfl) (L_mv (L_skip (by kernel_rfl) (L_skip (by kernel_rfl) (L_pickT (by kernel_rfl) (L_not true (by kernel_rfl) (L_nil (thenQ_normal (W_false (by kernel_rfl) (W_skip (blkQ_normal (thenQ_normal (W_region (L_mv (L_addN i 1 (by omega) (by kernel_rfl) (by kernel_rfl) (L_as (L_nil ?_))))))))))))))))
                refine thenQ_normal ⟨_, ?_, (i + 1), rfl, hds, by kernel_rfl, by kernel_rfl, hb, hs, ?_, ?_⟩
                · omega
                · omega
                · exact nmb_on (by assumption) (by omega) i3
              · intro h30
                replace h30 : c5.toNat ≠ 95 := by omega
                refine L_pickF (by kernel_rfl) (L_mv (L_want (by kernel_rfl) (L_mv (L_want (by kernel_rfl) (L_cmp .u8 ((c5.toNat : Nat) : Int) ((45 : Nat) : Int) (c5.toNat = 45) rfl (cmpN_eq c5.toNat 45) (by kernel_rfl) (by kernel_rfl) ?_ ?_)))))
                · intro h31
                  replace h31 : c5.toNat = 45 := by omega
                  refine L_pickF (by kernel_rfl) (L_not true (by kernel_rfl) (L_nil (thenQ_normal (W_false (by kernel_rfl) (W_skip (blkQ_normal (thenQ_normal (W_region (L_mv (L_addN i 1 (by omega) (by kernel_rfl) (by kernel_rfl) (L_as (L_nil ?_))))))))))))
                  refine thenQ_normal ⟨_, ?_, (i + 1), rfl, hds, by kernel_rfl, by kernel_rfl, hb, hs, ?_, ?_⟩
                  · omega
                  · omega
                  · exact nmb_on (by assumption) (by omega) i3
                · intro h32
                  replace h32 : c5.toNat ≠ 45 := by omega
                  refine L_pickF (by kernel_rfl) (L_not false (by kernel_rfl) (L_nil (thenQ_normal (W_true (by kernel_rfl) (W_seq (W_region (L_as (L_nil (thenQ_normal (W_ret (blkQ_ret (thenQ_ret (thenQ_ret (blkQ_ret (thenQ_ret ?_)))))))))))))))
                  refine end_ret [.tmp 2] [(.bool false)] rfl hds ⟨by kernel_rfl, trivial⟩ ?_
                  have e0 : false = nameF s := by first | exact (nmb_off (by assumption) (by omega) i3).symm | (rw [nm_end (by omega) i3]; simp [*]; done)
                  exact ⟨congrArg Value.bool e0, hb⟩
          · intro h33
            replace h33 : c5.toNat < 48 := by omega
            refine L_want (by kernel_rfl) (L_mv (L_skip (by kernel_rfl) (L_skip (by kernel_rfl) (L_want (by kernel_rfl) (L_pickF (by kernel_rfl) (L_pickF (by kernel_rfl) (L_mv (L_want (by kernel_rfl) (L_mv (L_want (by kernel_rfl) (L_cmp .u8 ((c5.toNat : Nat) : Int) ((95 : Nat) : Int) (c5.toNat = 95) rfl (cmpN_eq c5.toNat 95) (by kernel_rfl) (by kernel_rfl) ?_ ?_)))))))))))
            · intro h34
              replace h34 : c5.toNat = 95 := by omega
              refine L_pickF (by kernel_rfl) (L_mv (L_skip (by kernel_rfl) (L_skip (by kernel_rfl) (L_pickT (by kernel_rfl) (L_not true (by kernel_rfl) (L_nil (thenQ_normal (W_false (by kernel_rfl) (W_skip (blkQ_normal (thenQ_normal (W_region (L_mv (L_addN i 1 (by omega) (by kernel_rfl) (by kernel_rfl) (L_as (L_nil ?_))))))))))))))))
              refine thenQ_normal ⟨_, ?_, (i + 1), rfl, hds, by kernel_rfl, by kernel_rfl, hb, hs, ?_, ?_⟩
              · omega
              · omega
              · exact nmb_on (by assumption) (by omega) i3
            · intro h35
              replace h35 : c5.toNat ≠ 95 := by omega
              refine L_pickF (by kernel_rfl) (L_mv (L_want (by kernel_rfl) (L_mv (L_want (by kernel_rfl) (L_cmp .u8 ((c5.toNat : Nat) : Int) ((45 : Nat) : Int) (c5.toNat = 45) rfl (cmpN_eq c5.toNat 45) (by kernel_rfl) (by kernel_rfl) ?_ ?_)))))
              · intro h36
                replace h36 : c5.toNat = 45 := by omega
                refine L_pickF (by kernel_rfl) (L_not true (by kernel_rfl) (L_nil (thenQ_normal (W_false (by kernel_rfl) (W_skip (blkQ_normal (thenQ_normal (W_region (L_mv (L_addN i 1 (by omega) (by kernel_rfl) (by kernel_rfl) (L_as (L_nil ?_))))))))))))
                refine thenQ_normal ⟨_, ?_, (i + 1), rfl, hds, by kernel_rfl, by kernel_rfl, hb, hs, ?_, ?_⟩
                · omega
                · omega
                · exact nmb_on (by assumption) (by omega) i3
              · intro h37
                replace h37 : c5.toNat ≠ 45 := by omega
                refine L_pickF (by kernel_rfl) (L_not false (by kernel_rfl) (L_nil (thenQ_normal (W_true (by kernel_rfl) (W_seq (W_region (L_as (L_nil (thenQ_normal (W_ret (blkQ_ret (thenQ_ret (thenQ_ret (blkQ_ret (thenQ_ret ?_)))))))))))))))
                refine end_ret [.tmp 2] [(.bool false)] rfl hds ⟨by kernel_rfl, trivial⟩ ?_
                have e0 : false = nameF s := by first | exact (nmb_off (by assumption) (by omega) i3).symm | (rw [nm_end (by omega) i3]; simp [*]; done)
                exact ⟨congrArg Value.bool e0, hb⟩
    · intro h38
      replace h38 : c5.toNat < 65 := by omega
      refine L_mv (L_skip (by kernel_rfl) (L_skip (by kernel_rfl) (L_pickF (by kernel_rfl) (L_mv (L_want (by kernel_rfl) (L_mv (L_want (by kernel_rfl) (L_cmp .u8 ((c5.toNat : Nat) : Int) ((97 : Nat) : Int) (97 ≤ c5.toNat) rfl (cmpN_ge c5.toNat 97) (by kernel_rfl) (by kernel_rfl) ?_ ?_))))))))
      · intro h39
        replace h39 : 97 ≤ c5.toNat := by omega
        refine L_want (by kernel_rfl) (L_mv (L_want (by kernel_rfl) (L_mv (L_want (by kernel_rfl) (L_cmp .u8 ((c5.toNat : Nat) : Int) ((122 : Nat) : Int) (c5.toNat ≤ 122) rfl (cmpN_le c5.toNat 122) (by kernel_rfl) (by kernel_rfl) ?_ ?_)))))
        · intro h40
          replace h40 : c5.toNat ≤ 122 := by omega
          refine L_want (by kernel_rfl) (L_pickT (by kernel_rfl) (L_pickF (by kernel_rfl) (L_mv (L_skip (by kernel_rfl) (L_skip (by kernel_rfl) (L_skip (by kernel_rfl) (L_skip (by kernel_rfl) (L_skip (by kernel_rfl) (L_skip (by kernel_rfl) (L_pickT (by kernel_rfl) (L_mv (L_skip (by kernel_rfl) (L_skip (by kernel_rfl) (L_pickT (by kernel_rfl) (L_mv (L_skip (by kernel_rfl) (L_skip (by kernel_rfl) (L_pickT (by kernel_rfl) (L_not true (by kernel_rfl) (L_nil (thenQ_normal (W_false (by kernel_rfl) (W_skip (blkQ_normal (thenQ_normal (W_region (L_mv (L_addN i 1 (by omega) (by kernel_rfl) (by kernel_rfl) (L_as (L_nil ?_))))))))))))))))))))))))))))))
          refine thenQ_normal ⟨_, ?_, (i + 1), rfl, hds, by kernel_rfl, by kernel_rfl, hb, hs, ?_, ?_⟩
          · omega
          · omega
          · exact nmb_on (by assumption) (by omega) i3
        · intro h41
          replace h41 : 122 < c5.toNat := by omega
          refine L_want (by kernel_rfl) (L_pickT (by kernel_rfl) (L_pickF (by kernel_rfl) (L_mv (L_want (by kernel_rfl) (L_mv (L_want (by kernel_rfl) (L_cmp .u8 ((c5.toNat : Nat) : Int) ((48 : Nat) : Int) (48 ≤ c5.toNat) rfl (cmpN_ge c5.toNat 48) (by kernel_rfl) (by kernel_rfl) ?_ ?_)))))))
          · intro h42
            replace h42 : 48 ≤ c5.toNat := by omega
            refine L_want (by kernel_rfl) (L_mv (L_want (by kernel_rfl) (L_mv (L_want (by kernel_rfl) (L_cmp .u8 ((c5.toNat : Nat) : Int) ((57 : Nat) : Int) (c5.toNat ≤ 57) rfl (cmpN_le c5.toNat 57) (by kernel_rfl) (by kernel_rfl) ?_ ?_)))))
            · intro h43
              replace h43 : c5.toNat ≤ 57 := by omega
              refine L_want (by kernel_rfl) (L_pickT (by kernel_rfl) (L_pickF (by kernel_rfl) (L_mv (L_skip (by kernel_rfl) (L_skip (by kernel_rfl) (L_pickT (by kernel_rfl) (L_mv (L_skip (by kernel_rfl) (L_skip (by kernel_rfl) (L_pickT (by kernel_rfl) (L_not true (by kernel_rfl) (L_nil (thenQ_normal (W_false (by kernel_rfl) (W_skip (blkQ_normal (thenQ_normal (W_region (L_mv (L_addN i 1 (by omega) (by kernel_rfl) (by kernel_rfl) (L_as (L_nil ?_))))))))))))))))))))))
              refine thenQ_normal ⟨_, ?_, (i + 1), rfl, hds, by kernel_rfl, by kernel_rfl, hb, hs, ?_, ?_⟩
              · omega
              · omega
              · exact nmb_on (by assumption) (by omega) i3
            · intro h44
              replace h44 : 57 < c5.toNat := by omega
              refine L_want (by kernel_rfl) (L_pickT (by kernel_rfl) (L_pickF (by kernel_rfl) (L_mv (L_want (by kernel_rfl) (L_mv (L_want (by kernel_rfl) (L_cmp .u8 ((c5.toNat : Nat) : Int) ((95 : Nat) : Int) (c5.toNat = 95) rfl (cmpN_eq c5.toNat 95) (by kernel_rfl) (by kernel_rfl) ?_ ?_)))))))
              · intro h45
                replace h45 : c5.toNat = 95 := by omega
                refine L_pickF (by kernel_rfl) (L_mv (L_skip (by kernel_rfl) (L_skip (by kernel_rfl) (L_pickT (by kernel_rfl) (L_not true (by kernel_rfl) (L_nil (thenQ_normal (W_false (by kernel_rfl) (W_skip (blkQ_normal (thenQ_normal (W_region (L_mv (L_addN i 1 (by omega) (by kernel_rfl) (by kernel_rfl) (L_as (L_nil ?_))))))))))))))))
                refine thenQ_normal ⟨_, ?_, (i + 1), rfl, hds, by kernel_rfl, by kernel_rfl, hb, hs, ?_, ?_⟩
                · omega
                · omega
                · exact nmb_on (by assumption) (by omega) i3
              · intro h46
                replace h46 : c5.toNat ≠ 95 := by omega
                refine L_pickF (by kernel_rfl) (L_mv (L_want (by kernel_rfl) (L_mv (L_want (by kernel_rfl) (L_cmp .u8 ((c5.toNat : Nat) : Int) ((45 : Nat) : Int) (c5.toNat = 45) rfl (cmpN_eq c5.toNat 45) (by kernel_rfl) (by kernel_rfl) ?_ ?_)))))
                · intro h47
                  replace h47 : c5.toNat = 45 := by omega
                  refine L_pickF (by kernel_rfl) (L_not true (by kernel_rfl) (L_nil (thenQ_normal (W_false (by kernel_rfl) (W_skip (blkQ_normal (thenQ_normal (W_region (L_mv (L_addN i 1 (by omega) (by kernel_rfl) (by kernel_rfl) (L_as (L_nil ?_))))))))))))
                  refine thenQ_normal ⟨_, ?_, (i + 1), rfl, hds, by kernel_rfl, by kernel_rfl, hb, hs, ?_, ?_⟩
                  · omega
                  · omega
                  · exact nmb_on (by assumption) (by omega) i3
                · intro h48
                  replace h48 : c5.toNat ≠ 45 := by omega
                  refine L_pickF (by kernel_rfl) (L_not false (by kernel_rfl) (L_nil (thenQ_normal (W_true (by kernel_rfl) (W_seq (W_region (L_as (L_nil (thenQ_normal (W_ret (blkQ_ret (thenQ_ret (thenQ_ret (blkQ_ret (thenQ_ret ?_)))))))))))))))
                  refine end_ret [.tmp 2] [(.bool false)] rfl hds ⟨by kernel_rfl, trivial⟩ ?_
                  have e0 : false = nameF s := by first | exact (nmb_off (by assumption) (by omega) i3).symm | (rw [nm_end (by omega) i3]; simp [*]; done)
                  exact ⟨congrArg Value.bool e0, hb⟩
          · intro h49
            replace h49 : c5.toNat < 48 := by omega
            refine L_want (by kernel_rfl) (L_mv (L_skip (by kernel_rfl) (L_skip (by kernel_rfl) (L_want (by kernel_rfl) (L_pickF (by kernel_rfl) (L_pickF (by kernel_rfl) (L_mv (L_want (by kernel_rfl) (L_mv (L_want (by kernel_rfl) (L_cmp .u8 ((c5.toNat : Nat) : Int) ((95 : Nat) : Int) (c5.toNat = 95) rfl (cmpN_eq c5.toNat 95) (by kernel_rfl) (by kernel_rfl) ?_ ?_)))))))))))
            · intro h50
              replace h50 : c5.toNat = 95 := by omega
              refine L_pickF (by kernel_rfl) (L_mv (L_skip (by kernel_rfl) (L_skip (by kernel_rfl) (L_pickT (by kernel_rfl) (L_not true (by kernel_rfl) (L_nil (thenQ_normal (W_false (by kernel_rfl) (W_skip (blkQ_normal (thenQ_normal (W_region (L_mv (L_addN i 1 (by omega) (by kernel_rfl) (by kernel_rfl) (L_as (L_nil ?_))))))))))))))))
              refine thenQ_normal ⟨_, ?_, (i + 1), rfl, hds, by kernel_rfl, by kernel_rfl, hb, hs, ?_, ?_⟩
              · omega
              · omega
              · exact nmb_on (by assumption) (by omega) i3
            · intro h51
              replace h51 : c5.toNat ≠ 95 := by omega
              refine L_pickF (by kernel_rfl) (L_mv (L_want (by kernel_rfl) (L_mv (L_want (by kernel_rfl) (L_cmp .u8 ((c5.toNat : Nat) : Int) ((45 : Nat) : Int) (c5.toNat = 45) rfl (cmpN_eq c5.toNat 45) (by kernel_rfl) (by kernel_rfl) ?_ ?_)))))
              · intro h52
                replace h52 : c5.toNat = 45 := by omega
                refine L_pickF (by kernel_rfl) (L_not true (by kernel_rfl) (L_nil (thenQ_normal (W_false (by kernel_rfl) (W_skip (blkQ_normal (thenQ_normal (W_region (L_mv (L_addN i 1 (by omega) (by kernel_rfl) (by kernel_rfl) (L_as (L_nil ?_))))))))))))
                refine thenQ_normal ⟨_, ?_, (i + 1), rfl, hds, by kernel_rfl, by kernel_rfl, hb, hs, ?_, ?_⟩
                · omega
                · omega
                · exact nmb_on (by assumption) (by omega) i3
              · intro h53
                replace h53 : c5.toNat ≠ 45 := by omega
                refine L_pickF (by kernel_rfl) (L_not false (by kernel_rfl) (L_nil (thenQ_normal (W_true (by kernel_rfl) (W_seq (W_region (L_as (L_nil (thenQ_normal (W_ret (blkQ_ret (thenQ_ret (thenQ_ret (blkQ_ret (thenQ_ret ?_)))))))))))))))
                refine end_ret [.tmp 2] [(.bool false)] rfl hds ⟨by kernel_rfl, trivial⟩ ?_
                have e0 : false = nameF s := by first | exact (nmb_off (by assumption) (by omega) i3).symm | (rw [nm_end (by omega) i3]; simp [*]; done)
                exact ⟨congrArg Value.bool e0, hb⟩
      · intro h54
        replace h54 : c5.toNat < 97 := by omega
        refine L_want (by kernel_rfl) (L_mv (L_skip (by kernel_rfl) (L_skip (by kernel_rfl) (L_want (by kernel_rfl) (L_pickF (by kernel_rfl) (L_pickF (by kernel_rfl) (L_mv (L_want (by kernel_rfl) (L_mv (L_want (by kernel_rfl) (L_cmp .u8 ((c5.toNat : Nat) : Int) ((48 : Nat) : Int) (48 ≤ c5.toNat) rfl (cmpN_ge c5.toNat 48) (by kernel_rfl) (by kernel_rfl) ?_ ?_)))))))))))
        · intro h55
          replace h55 : 48 ≤ c5.toNat := by omega
          refine L_want (by kernel_rfl) (L_mv (L_want (by kernel_rfl) (L_mv (L_want (by kernel_rfl) (L_cmp .u8 ((c5.toNat : Nat) : Int) ((57 : Nat) : Int) (c5.toNat ≤ 57) rfl (cmpN_le c5.toNat 57) (by kernel_rfl) (by kernel_rfl) ?_ ?_)))))
          · intro h56
            replace h56 : c5.toNat ≤ 57 := by omega
            refine L_want (by kernel_rfl) (L_pickT (by kernel_rfl) (L_pickF (by kernel_rfl) (L_mv (L_skip (by kernel_rfl) (L_skip (by kernel_rfl) (L_pickT (by kernel_rfl) (L_mv (L_skip (by kernel_rfl) (L_skip (by kernel_rfl) (L_pickT (by kernel_rfl) (L_not true (by kernel_rfl) (L_nil (thenQ_normal (W_false (by kernel_rfl) (W_skip (blkQ_normal (thenQ_normal (W_region (L_mv (L_addN i 1 (by omega) (by kernel_rfl) (by kernel_rfl) (L_as (L_nil ?_))))))))))))))))))))))
            refine thenQ_normal ⟨_, ?_, (i + 1), rfl, hds, by kernel_rfl, by kernel_rfl, hb, hs, ?_, ?_⟩
            · omega
            · omega
            · exact nmb_on (by assumption) (by omega) i3
          · intro h57
            replace h57 : 57 < c5.toNat := by omega
            refine L_want (by kernel_rfl) (L_pickT (by kernel_rfl) (L_pickF (by kernel_rfl) (L_mv (L_want (by kernel_rfl) (L_mv (L_want (by kernel_rfl) (L_cmp .u8 ((c5.toNat : Nat) : Int) ((95 : Nat) : Int) (c5.toNat = 95) rfl (cmpN_eq c5.toNat 95) (by kernel_rfl) (by kernel_rfl) ?_ ?_)))))))
            · intro h58
              replace h58 : c5.toNat = 95 := by omega
              refine L_pickF (by kernel_rfl) (L_mv (L_skip (by kernel_rfl) (L_skip (by kernel_rfl) (L_pickT (by kernel_rfl) (L_not true (by kernel_rfl) (L_nil (thenQ_normal (W_false (by kernel_rfl) (W_skip (blkQ_normal (thenQ_normal (W_region (L_mv (L_addN i 1 (by omega) (by kernel_rfl) (by kernel_rfl) (L_as (L_nil ?_))))))))))))))))
              refine thenQ_normal ⟨_, ?_, (i + 1), rfl, hds, by kernel_rfl, by kernel_rfl, hb, hs, ?_, ?_⟩
              · omega
              · omega
              · exact nmb_on (by assumption) (by omega) i3
            · intro h59
              replace h59 : c5.toNat ≠ 95 := by omega
              refine L_pickF (by kernel_rfl) (L_mv (L_want (by kernel_rfl) (L_mv (L_want (by kernel_rfl) (L_cmp .u8 ((c5.toNat : Nat) : Int) ((45 : Nat) : Int) (c5.toNat = 45) rfl (cmpN_eq c5.toNat 45) (by kernel_rfl) (by kernel_rfl) ?_ ?_)))))
              · intro h60
                replace h60 : c5.toNat = 45 := by omega
                refine L_pickF (by kernel_rfl) (L_not true (by kernel_rfl) (L_nil (thenQ_normal (W_false (by kernel_rfl) (W_skip (blkQ_normal (thenQ_normal (W_region (L_mv (L_addN i 1 (by omega) (by kernel_rfl) (by kernel_rfl) (L_as (L_nil ?_))))))))))))
                refine thenQ_normal ⟨_, ?_, (i + 1), rfl, hds, by kernel_rfl, by kernel_rfl, hb, hs, ?_, ?_⟩
                · omega
                · omega
                · exact nmb_on (by assumption) (by omega) i3
              · intro h61
                replace h61 : c5.toNat ≠ 45 := by omega
                refine L_pickF (by kernel_rfl) (L_not false (by kernel_rfl) (L_nil (thenQ_normal (W_true (by kernel_rfl) (W_seq (W_region (L_as (L_nil (thenQ_normal (W_ret (blkQ_ret (thenQ_ret (thenQ_ret (blkQ_ret (thenQ_ret ?_)))))))))))))))
                refine end_ret [.tmp 2] [(.bool false)] rfl hds ⟨by kernel_rfl, trivial⟩ ?_
                have e0 : false = nameF s := by first | exact (nmb_off (by assumption) (by omega) i3).symm | (rw [nm_end (by omega) i3]; simp [*]; done)
                exact ⟨congrArg Value.bool e0, hb⟩
        · intro h62
          replace h62 : c5.toNat < 48 := by omega
          refine L_want (by kernel_rfl) (L_mv (L_skip (by kernel_rfl) (L_skip (by kernel_rfl) (L_want (by kernel_rfl) (L_pickF (by kernel_rfl) (L_pickF (by kernel_rfl) (L_mv (L_want (by kernel_rfl) (L_mv (L_want (by kernel_rfl) (L_cmp .u8 ((c5.toNat : Nat) : Int) ((95 : Nat) : Int) (c5.toNat = 95) rfl (cmpN_eq c5.toNat 95) (by kernel_rfl) (by kernel_rfl) ?_ ?_)))))))))))
          · intro h63
            replace h63 : c5.toNat = 95 := by omega
            refine L_pickF (by kernel_rfl) (L_mv (L_skip (by kernel_rfl) (L_skip (by kernel_rfl) (L_pickT (by kernel_rfl) (L_not true (by kernel_rfl) (L_nil (thenQ_normal (W_false (by kernel_rfl) (W_skip (blkQ_normal (thenQ_normal (W_region (L_mv (L_addN i 1 (by omega) (by kernel_rfl) (by kernel_rfl) (L_as (L_nil ?_))))))))))))))))
            refine thenQ_normal ⟨_, ?_, (i + 1), rfl, hds, by kernel_rfl, by kernel_rfl, hb, hs, ?_, ?_⟩
            · omega
            · omega
            · exact nmb_on (by assumption) (by omega) i3
          · intro h64
            replace h64 : c5.toNat ≠ 95 := by omega
            refine L_pickF (by kernel_rfl) (L_mv (L_want (by kernel_rfl) (L_mv (L_want (by kernel_rfl) (L_cmp .u8 ((c5.toNat : Nat) : Int) ((45 : Nat) : Int) (c5.toNat = 45) rfl (cmpN_eq c5.toNat 45) (by kernel_rfl) (by kernel_rfl) ?_ ?_)))))
            · intro h65
              replace h65 : c5.toNat = 45 := by omega
              refine L_pickF (by kernel_rfl) (L_not true (by kernel_rfl) (L_nil (thenQ_normal (W_false (by kernel_rfl) (W_skip (blkQ_normal (thenQ_normal (W_region (L_mv (L_addN i 1 (by omega) (by kernel_rfl) (by kernel_rfl) (L_as (L_nil ?_))))))))))))
              refine thenQ_normal ⟨_, ?_, (i + 1), rfl, hds, by kernel_rfl, by kernel_rfl, hb, hs, ?_, ?_⟩
              · omega
              · omega
              · exact nmb_on (by assumption) (by omega) i3
            · intro h66
              replace h66 : c5.toNat ≠ 45 := by omega
              refine L_pickF (by kernel_rfl) (L_not false (by kernel_rfl) (L_nil (thenQ_normal (W_true (by kernel_rfl) (W_seq (W_region (L_as (L_nil (thenQ_normal (W_ret (blkQ_ret (thenQ_ret (thenQ_ret (blkQ_ret (thenQ_ret ?_)))))))))))))))
              refine end_ret [.tmp 2] [(.bool false)] rfl hds ⟨by kernel_rfl, trivial⟩ ?_
              have e0 : false = nameF s := by first | exact (nmb_off (by assumption) (by omega) i3).symm | (rw [nm_end (by omega) i3]; simp [*]; done)
              exact ⟨congrArg Value.bool e0, hb⟩
  · intro h67
    replace h67 : (s).length ≤ i := by omega
    refine L_nil (thenQ_normal (W_false (by kernel_rfl) (W_exit (thenQ_exit (thenQ_exit (blkQ_exit (thenQ_normal (W_seq (W_region (L_mv (L_sne s ([] : List UInt8) rfl (by kernel_rfl) (by kernel_rfl) ?_ ?_)))))))))))
    · intro h68
      refine L_as (L_nil (thenQ_normal (W_ret ?_)))
      refine end_ret [.tmp 2] [(.bool true)] rfl hds ⟨by kernel_rfl, trivial⟩ ?_
      have e0 : true = nameF s := by first | exact (nmb_off (by assumption) (by omega) i3).symm | (rw [nm_end (by omega) i3]; simp [*]; done)
      exact ⟨congrArg Value.bool e0, hb⟩
    · intro h69
      refine L_as (L_nil (thenQ_normal (W_ret ?_)))
      refine end_ret [.tmp 2] [(.bool false)] rfl hds ⟨by kernel_rfl, trivial⟩ ?_
      have e0 : false = nameF s := by first | exact (nmb_off (by assumption) (by omega) i3).symm | (rw [nm_end (by omega) i3]; simp [*]; done)
      exact ⟨congrArg Value.bool e0, hb⟩

set_option maxHeartbeats 4000000 in
set_option maxRecDepth 100000 in
theorem c_furrowref03_Scan (no : Int) (s : List UInt8) (w : World) (hs : s.length ≤ 1073741824) :
    Calls Tryz.prog 32 #[(.int .i64 no), (S s)] w (Ret fun v w' => ∃ (q0 : Value), v = (.tuple #[(Value.agg #[(.int .i64 ((scanF no s).1.1)), (.int .u8 ((scanF no s).1.2.1)), (S ((scanF no s).1.2.2.1)), q0, (S ((scanF no s).1.2.2.2.2))]), (.int .i64 ((scanF no s).2))]) ∧ Row w' w.heap.size 9 1 encStr q0 ((scanF no s).1.2.2.2.1) ∧ Below w.heap.size w w') := by
  refine enter (args := [(.int .i64 no), (S s)]) Tryz.func32 rfl (by kernel_rfl : _ = 92) (by kernel_rfl) ?_
  have hb := Below.refl w.heap.size w
  have hs : w.heap.size ≤ w.heap.size := Nat.le_refl _
  have hnl := noteF_len s
  have hhl := headF_len s
  refine W_seq (W_region (L_new (fun b => .pointer (some ⟨b, 0, none⟩)) (.cells [(.int .i64 0), (.int .u8 0), (S ([] : List UInt8)), (.slice none 0 0), (S ([] : List UInt8))].toArray 49 (0, 0)) (by kernel_rfl) (by kernel_rfl) ?_))
  intro b1 w2 hN3
  have g_x4 : w.heap.size ≤ b1 := by rw [hN3.num]; exact hs
  replace hb := hb.trans (hN3.below.mono hs)
  replace hs := Nat.le_trans hs (hN3.below.size)
  have o_x4 := hN3.here
  refine L_as (L_nil (thenQ_normal (W_seq (W_seq (W_region (L_mv (L_call 51 [(S s)] (by kernel_rfl) (by kernel_rfl) (c_furrowref03_Check s _ (by omega)) ?_)))))))
  rintro _ w4 ⟨rfl, hB5⟩
  replace hb := hb.trans (hB5.mono hs)
  replace hs := Nat.le_trans hs (hB5.size)
  replace o_x4 := obj_below o_x4 hB5
  have := chkF_range s
  refine L_mv (L_run (.int .i64 (((chkF s).1 : Nat) : Int)) (by kernel_rfl) (by kernel_rfl) (L_run (.int .i64 ((chkF s).2)) (by kernel_rfl) (by kernel_rfl) (L_as (L_as (L_nil (thenQ_normal (W_seq (W_region (L_mv (L_cmp .i64 ((chkF s).2) 0 ((chkF s).2 ≠ 0) rfl (cmp_ne ((chkF s).2) 0) (by kernel_rfl) (by kernel_rfl) ?_ ?_))))))))))
  · intro h7
    replace h7 : (chkF s).2 ≠ 0 := by omega
    refine L_nil (thenQ_normal (W_true (by kernel_rfl) (W_seq (W_region (L_run (Value.agg #[(.int .i64 0), (.int .u8 0), (S ([] : List UInt8)), (.slice none 0 0), (S ([] : List UInt8))]) (by kernel_rfl) (by kernel_rfl) (L_mv (L_storeA b1 0 [(.int .i64 0), (.int .u8 0), (S ([] : List UInt8)), (.slice none 0 0), (S ([] : List UInt8))] [(.int .i64 0), (.int .u8 0), (S ([] : List UInt8)), (.slice none 0 0), (S ([] : List UInt8))] [(.int .i64 0), (.int .u8 0), (S ([] : List UInt8)), (.slice none 0 0), (S ([] : List UInt8))] 49 (by kernel_rfl) (by kernel_rfl) rfl (by kernel_rfl) o_x4 (by kernel_rfl) rfl ?_)))))))
    intro w8 hW9
    replace hb := hb.trans (hW9.below g_x4)
    replace hs := Nat.le_trans hs (Nat.le_of_eq hW9.size.symm)
    replace o_x4 := hW9.here
    refine L_as (L_nil (thenQ_normal (W_ret (thenQ_ret ?_))))
    refine end_ret [.cell 4 49, .tmp 5] [(Value.agg #[(.int .i64 0), (.int .u8 0), (S ([] : List UInt8)), (.slice none 0 0), (S ([] : List UInt8))]), (.int .i64 ((chkF s).2))] rfl rfl ⟨⟨⟨b1, 0, none⟩, by kernel_rfl, load_agg [(.int .i64 0), (.int .u8 0), (S ([] : List UInt8)), (.slice none 0 0), (S ([] : List UInt8))] (by kernel_rfl) (by kernel_rfl) (cells_obj o_x4)⟩, by kernel_rfl, trivial⟩ ?_
    have hE : ((Value.agg #[(.int .i64 0), (.int .u8 0), (S ([] : List UInt8)), (.slice none 0 0), (S ([] : List UInt8))]) = (Value.agg #[(.int .i64 ((scanF no s).1.1)), (.int .u8 ((scanF no s).1.2.1)), (S ((scanF no s).1.2.2.1)), (.slice none 0 0), (S ((scanF no s).1.2.2.2.2))])) ∧ (((chkF s).2 : Int) = (scanF no s).2) ∧ (([] : List (List UInt8)) = (scanF no s).1.2.2.2.1) := ⟨(by (rw [scan_bad (by assumption)]; try rfl; done)), (by (rw [scan_bad (by assumption)]; try rfl; done)), (by (rw [scan_bad (by assumption)]; try rfl; done))⟩
    exact ⟨(.slice none 0 0), tup2 (hE.1) (congrArg (Value.int .i64) hE.2.1), (Row.nil _ _ _ _ _).cast hE.2.2, hb⟩
  · intro h10
    replace h10 : (chkF s).2 = 0 := by omega
    refine L_nil (thenQ_normal (W_false (by kernel_rfl) (W_skip (thenQ_normal (W_seq (W_region (L_mv (L_run (Value.agg #[(.int .i64 no), (.int .u8 0), (S ([] : List UInt8)), (.slice none 0 0), (S ([] : List UInt8))]) (by kernel_rfl) (by kernel_rfl) (L_new (fun b => .pointer (some ⟨b, 0, none⟩)) (.cells [(.int .i64 0), (.int .u8 0), (S ([] : List UInt8)), (.slice none 0 0), (S ([] : List UInt8))].toArray 49 (0, 0)) (by kernel_rfl) (by kernel_rfl) ?_)))))))))
    intro b11 w12 hN13
    have ne_x4_x8 : b1 ≠ b11 := by have := (obj_lt o_x4); have := hN13.num; omega
    have ne_x8_x4 := ne_x4_x8.symm
    have g_x8 : w.heap.size ≤ b11 := by rw [hN13.num]; exact hs
    replace hb := hb.trans (hN13.below.mono hs)
    replace hs := Nat.le_trans hs (hN13.below.size)
    replace o_x4 := obj_below o_x4 hN13.below
    have o_x8 := hN13.here
    refine L_storeA b11 0 [(.int .i64 no), (.int .u8 0), (S ([] : List UInt8)), (.slice none 0 0), (S ([] : List UInt8))] [(.int .i64 0), (.int .u8 0), (S ([] : List UInt8)), (.slice none 0 0), (S ([] : List UInt8))] [(.int .i64 no), (.int .u8 0), (S ([] : List UInt8)), (.slice none 0 0), (S ([] : List UInt8))] 49 (by kernel_rfl) (by kernel_rfl) rfl (by kernel_rfl) o_x8 (by kernel_rfl) rfl ?_
    intro w14 hW15
    replace hb := hb.trans (hW15.below g_x8)
    replace hs := Nat.le_trans hs (Nat.le_of_eq hW15.size.symm)
    have n_o_x4 := obj_wrote o_x4 hW15 ne_x4_x8
    replace o_x4 := n_o_x4; clear n_o_x4
    replace o_x8 := hW15.here
    refine L_nil (thenQ_normal (W_seq (W_region (L_mv (L_call 52 [(S s)] (by kernel_rfl) (by kernel_rfl) (c_furrowref03_Parts s _ (by omega)) ?_)))))
    rintro _ w16 ⟨rfl, hB17⟩
    replace hb := hb.trans (hB17.mono hs)
    replace hs := Nat.le_trans hs (hB17.size)
    replace o_x4 := obj_below o_x4 hB17
    replace o_x8 := obj_below o_x8 hB17
    have := headF_len s
    have := noteF_len s
    refine L_mv (L_run (S (headF s)) (by kernel_rfl) (by kernel_rfl) (L_run (S (noteF s)) (by kernel_rfl) (by kernel_rfl) (L_as (L_as (L_nil (thenQ_normal (W_seq (W_block (W_seq (W_region (L_mv (L_seq (headF s) ([] : List UInt8) rfl (by kernel_rfl) (by kernel_rfl) ?_ ?_))))))))))))
    · intro h19
      refine L_mv (L_want (by kernel_rfl) (L_mv (L_want (by kernel_rfl) (L_slen 9 (noteF s) rfl Tryz.underlying9 (by kernel_rfl) (L_want (by kernel_rfl) (L_cmp .i64 ((((noteF s)).length : Nat) : Int) ((9 : Nat) : Int) (9 ≤ ((noteF s)).length) rfl (cmpN_ge (((noteF s)).length) 9) (by kernel_rfl) (by kernel_rfl) ?_ ?_))))))
      · intro h20
        replace h20 : 9 ≤ ((noteF s)).length := by omega
        refine L_pickT (by kernel_rfl) (L_mv (L_want (by kernel_rfl) (L_mv (L_want (by kernel_rfl) (L_ssto (noteF s) 9 Tryz.underlying9 (by kernel_rfl) ⟨.i64, by kernel_rfl⟩ (by omega) (L_want (by kernel_rfl) (L_seq (List.take 9 (noteF s)) ([64, 109, 105, 115, 115, 105, 110, 103, 58] : List UInt8) rfl (by kernel_rfl) (by kernel_rfl) ?_ ?_)))))))
        · intro h21
          refine L_pickT (by kernel_rfl) (L_as (L_nil (thenQ_normal (W_true (by kernel_rfl) (W_seq (W_region (L_run (.pointer (some ⟨b11, 1, none⟩)) (by kernel_rfl) (by kernel_rfl) (L_store b11 1 (.int .u8 3) [(.int .i64 no), (.int .u8 0), (S ([] : List UInt8)), (.slice none 0 0), (S ([] : List UInt8))] [(.int .i64 no), (.int .u8 3), (S ([] : List UInt8)), (.slice none 0 0), (S ([] : List UInt8))] 49 (by kernel_rfl) (by kernel_rfl) rfl (by kernel_rfl) o_x8 (by simp) rfl ?_))))))))
          intro w22 hW23
          replace hb := hb.trans (hW23.below g_x8)
          replace hs := Nat.le_trans hs (Nat.le_of_eq hW23.size.symm)
          have n_o_x4 := obj_wrote o_x4 hW23 ne_x4_x8
          replace o_x4 := n_o_x4; clear n_o_x4
          replace o_x8 := hW23.here
          refine L_nil (thenQ_normal (W_region (L_mv (L_ssfrom (noteF s) 9 Tryz.underlying9 (by kernel_rfl) ⟨.i64, by kernel_rfl⟩ (by omega) (L_call 53 [(S (List.drop 9 (noteF s)))] (by kernel_rfl) (by kernel_rfl) (c_furrowref03_Cut (List.drop 9 (noteF s)) _ (by (simp only [List.length_drop, List.length_take]; omega))) ?_)))))
          rintro _ w25 ⟨q24, rfl, r_q24, hB26⟩
          replace r_q24 := r_q24.base hs
          replace hb := hb.trans (hB26.mono hs)
          replace hs := Nat.le_trans hs (hB26.size)
          replace o_x4 := obj_below o_x4 hB26
          replace o_x8 := obj_below o_x8 hB26
          refine L_mv (L_run q24 (by kernel_rfl) (by kernel_rfl) (L_run (S ((cutF (List.drop 9 (noteF s))).2)) (by kernel_rfl) (by kernel_rfl) (L_run (.pointer (some ⟨b11, 3, none⟩)) (by kernel_rfl) (by kernel_rfl) (L_store b11 3 q24 [(.int .i64 no), (.int .u8 3), (S ([] : List UInt8)), (.slice none 0 0), (S ([] : List UInt8))] [(.int .i64 no), (.int .u8 3), (S ([] : List UInt8)), q24, (S ([] : List UInt8))] 49 (by kernel_rfl) (by kernel_rfl) r_q24.one (by kernel_rfl) o_x8 (by simp) rfl ?_))))
          intro w28 hW29
          replace hb := hb.trans (hW29.below g_x8)
          replace hs := Nat.le_trans hs (Nat.le_of_eq hW29.size.symm)
          have n_o_x4 := obj_wrote o_x4 hW29 ne_x4_x8
          have n_r_q24 := r_q24.wrote hW29 (r_q24.ne o_x8 (by simp))
          replace o_x4 := n_o_x4; clear n_o_x4
          replace r_q24 := n_r_q24; clear n_r_q24
          replace o_x8 := hW29.here
          refine L_run (.pointer (some ⟨b11, 4, none⟩)) (by kernel_rfl) (by kernel_rfl) (L_store b11 4 (S ((cutF (List.drop 9 (noteF s))).2)) [(.int .i64 no), (.int .u8 3), (S ([] : List UInt8)), q24, (S ([] : List UInt8))] [(.int .i64 no), (.int .u8 3), (S ([] : List UInt8)), q24, (S ((cutF (List.drop 9 (noteF s))).2))] 49 (by kernel_rfl) (by kernel_rfl) rfl (by kernel_rfl) o_x8 (by simp) rfl ?_)
          intro w30 hW31
          replace hb := hb.trans (hW31.below g_x8)
          replace hs := Nat.le_trans hs (Nat.le_of_eq hW31.size.symm)
          have n_o_x4 := obj_wrote o_x4 hW31 ne_x4_x8
          have n_r_q24 := r_q24.wrote hW31 (r_q24.ne o_x8 (by simp))
          replace o_x4 := n_o_x4; clear n_o_x4
          replace r_q24 := n_r_q24; clear n_r_q24
          replace o_x8 := hW31.here
          refine L_nil (blkQ_normal (thenQ_normal (W_seq (W_region (L_loadA b11 0 [(.int .i64 no), (.int .u8 3), (S ([] : List UInt8)), q24, (S ((cutF (List.drop 9 (noteF s))).2))] (by kernel_rfl) (by kernel_rfl) (by kernel_rfl) (cells_at o_x8 0 (by kernel_rfl)) (L_storeA b1 0 [(.int .i64 no), (.int .u8 3), (S ([] : List UInt8)), q24, (S ((cutF (List.drop 9 (noteF s))).2))] [(.int .i64 0), (.int .u8 0), (S ([] : List UInt8)), (.slice none 0 0), (S ([] : List UInt8))] [(.int .i64 no), (.int .u8 3), (S ([] : List UInt8)), q24, (S ((cutF (List.drop 9 (noteF s))).2))] 49 (by kernel_rfl) (by kernel_rfl) (allc rfl (allc rfl (allc rfl (allc r_q24.one (allc rfl rfl))))) (by kernel_rfl) o_x4 (by kernel_rfl) rfl ?_))))))
          intro w32 hW33
          replace hb := hb.trans (hW33.below g_x4)
          replace hs := Nat.le_trans hs (Nat.le_of_eq hW33.size.symm)
          have n_o_x8 := obj_wrote o_x8 hW33 ne_x8_x4
          have n_r_q24 := r_q24.wrote hW33 (r_q24.ne o_x4 (by simp))
          replace o_x8 := n_o_x8; clear n_o_x8
          replace r_q24 := n_r_q24; clear n_r_q24
          replace o_x4 := hW33.here
          refine L_as (L_nil (thenQ_normal (W_ret ?_)))
          refine end_ret [.cell 4 49, .tmp 5] [(Value.agg #[(.int .i64 no), (.int .u8 3), (S ([] : List UInt8)), q24, (S ((cutF (List.drop 9 (noteF s))).2))]), (.int .i64 0)] rfl rfl ⟨⟨⟨b1, 0, none⟩, by kernel_rfl, load_agg [(.int .i64 no), (.int .u8 3), (S ([] : List UInt8)), q24, (S ((cutF (List.drop 9 (noteF s))).2))] (by kernel_rfl) (by kernel_rfl) (cells_obj o_x4)⟩, by kernel_rfl, trivial⟩ ?_
          have hE : ((Value.agg #[(.int .i64 no), (.int .u8 3), (S ([] : List UInt8)), q24, (S ((cutF (List.drop 9 (noteF s))).2))]) = (Value.agg #[(.int .i64 ((scanF no s).1.1)), (.int .u8 ((scanF no s).1.2.1)), (S ((scanF no s).1.2.2.1)), q24, (S ((scanF no s).1.2.2.2.2))])) ∧ ((0 : Int) = (scanF no s).2) ∧ ((cutF (List.drop 9 (noteF s))).1 = (scanF no s).1.2.2.2.1) := ⟨(by (rw [scan_miss (by assumption) (by assumption) (hp_take (p := missT) (by assumption))]; try rfl; done)), (by (rw [scan_miss (by assumption) (by assumption) (hp_take (p := missT) (by assumption))]; try rfl; done)), (by (rw [scan_miss (by assumption) (by assumption) (hp_take (p := missT) (by assumption))]; try rfl; done))⟩
          exact ⟨q24, tup2 (hE.1) (congrArg (Value.int .i64) hE.2.1), r_q24.cast hE.2.2, hb⟩
        · intro h34
          refine L_pickT (by kernel_rfl) (L_as (L_nil (thenQ_normal (W_false (by kernel_rfl) (W_seq (W_region (L_mv (L_seq (headF s) ([] : List UInt8) rfl (by kernel_rfl) (by kernel_rfl) ?_ ?_))))))))
          · intro h35
            refine L_as (L_nil (thenQ_normal (W_true (by kernel_rfl) (W_seq (W_region (L_run (.pointer (some ⟨b11, 1, none⟩)) (by kernel_rfl) (by kernel_rfl) (L_store b11 1 (.int .u8 0) [(.int .i64 no), (.int .u8 0), (S ([] : List UInt8)), (.slice none 0 0), (S ([] : List UInt8))] [(.int .i64 no), (.int .u8 0), (S ([] : List UInt8)), (.slice none 0 0), (S ([] : List UInt8))] 49 (by kernel_rfl) (by kernel_rfl) rfl (by kernel_rfl) o_x8 (by simp) rfl ?_)))))))
            intro w36 hW37
            replace hb := hb.trans (hW37.below g_x8)
            replace hs := Nat.le_trans hs (Nat.le_of_eq hW37.size.symm)
            have n_o_x4 := obj_wrote o_x4 hW37 ne_x4_x8
            replace o_x4 := n_o_x4; clear n_o_x4
            replace o_x8 := hW37.here
            refine L_nil (thenQ_normal (W_region (L_mv (L_run (.pointer (some ⟨b11, 4, none⟩)) (by kernel_rfl) (by kernel_rfl) (L_store b11 4 (S (noteF s)) [(.int .i64 no), (.int .u8 0), (S ([] : List UInt8)), (.slice none 0 0), (S ([] : List UInt8))] [(.int .i64 no), (.int .u8 0), (S ([] : List UInt8)), (.slice none 0 0), (S (noteF s))] 49 (by kernel_rfl) (by kernel_rfl) rfl (by kernel_rfl) o_x8 (by simp) rfl ?_)))))
            intro w38 hW39
            replace hb := hb.trans (hW39.below g_x8)
            replace hs := Nat.le_trans hs (Nat.le_of_eq hW39.size.symm)
            have n_o_x4 := obj_wrote o_x4 hW39 ne_x4_x8
            replace o_x4 := n_o_x4; clear n_o_x4
            replace o_x8 := hW39.here
            refine L_nil (blkQ_normal (thenQ_normal (W_seq (W_region (L_loadA b11 0 [(.int .i64 no), (.int .u8 0), (S ([] : List UInt8)), (.slice none 0 0), (S (noteF s))] (by kernel_rfl) (by kernel_rfl) (by kernel_rfl) (cells_at o_x8 0 (by kernel_rfl)) (L_storeA b1 0 [(.int .i64 no), (.int .u8 0), (S ([] : List UInt8)), (.slice none 0 0), (S (noteF s))] [(.int .i64 0), (.int .u8 0), (S ([] : List UInt8)), (.slice none 0 0), (S ([] : List UInt8))] [(.int .i64 no), (.int .u8 0), (S ([] : List UInt8)), (.slice none 0 0), (S (noteF s))] 49 (by kernel_rfl) (by kernel_rfl) rfl (by kernel_rfl) o_x4 (by kernel_rfl) rfl ?_))))))
            intro w40 hW41
            replace hb := hb.trans (hW41.below g_x4)
            replace hs := Nat.le_trans hs (Nat.le_of_eq hW41.size.symm)
            have n_o_x8 := obj_wrote o_x8 hW41 ne_x8_x4
            replace o_x8 := n_o_x8; clear n_o_x8
            replace o_x4 := hW41.here
            refine L_as (L_nil (thenQ_normal (W_ret ?_)))
            refine end_ret [.cell 4 49, .tmp 5] [(Value.agg #[(.int .i64 no), (.int .u8 0), (S ([] : List UInt8)), (.slice none 0 0), (S (noteF s))]), (.int .i64 0)] rfl rfl ⟨⟨⟨b1, 0, none⟩, by kernel_rfl, load_agg [(.int .i64 no), (.int .u8 0), (S ([] : List UInt8)), (.slice none 0 0), (S (noteF s))] (by kernel_rfl) (by kernel_rfl) (cells_obj o_x4)⟩, by kernel_rfl, trivial⟩ ?_
            have hE : ((Value.agg #[(.int .i64 no), (.int .u8 0), (S ([] : List UInt8)), (.slice none 0 0), (S (noteF s))]) = (Value.agg #[(.int .i64 ((scanF no s).1.1)), (.int .u8 ((scanF no s).1.2.1)), (S ((scanF no s).1.2.2.1)), (.slice none 0 0), (S ((scanF no s).1.2.2.2.2))])) ∧ ((0 : Int) = (scanF no s).2) ∧ (([] : List (List UInt8)) = (scanF no s).1.2.2.2.1) := ⟨(by (rw [scanR_blank (by assumption) (by assumption) (hp_not (p := missT) (.inr (by assumption)))]; try rfl; done)), (by (rw [scanR_blank (by assumption) (by assumption) (hp_not (p := missT) (.inr (by assumption)))]; try rfl; done)), (by (rw [scanR_blank (by assumption) (by assumption) (hp_not (p := missT) (.inr (by assumption)))]; try rfl; done))⟩
            exact ⟨(.slice none 0 0), tup2 (hE.1) (congrArg (Value.int .i64) hE.2.1), (Row.nil _ _ _ _ _).cast hE.2.2, hb⟩
          · intro h42
            refine L_as (L_nil (thenQ_normal (W_false (by kernel_rfl) (W_seq (W_region (L_mv ?_))))))
            have hz := get_some (headF s) 0 (by exact List.length_pos_iff.2 (by assumption)); obtain ⟨c43, hc44⟩ := hz
            have := c43.toNat_lt
            refine L_sindex (k := .i64) (headF s) 0 c43 Tryz.underlying9 hc44 (by kernel_rfl) (by kernel_rfl) (L_cmp .u8 ((c43.toNat : Nat) : Int) ((64 : Nat) : Int) (c43.toNat = 64) rfl (cmpN_eq c43.toNat 64) (by kernel_rfl) (by kernel_rfl) ?_ ?_)
            · intro h45
              replace h45 : c43.toNat = 64 := by omega
              refine L_as (L_nil (thenQ_normal (W_true (by kernel_rfl) (W_seq (W_region (L_mv (L_ssfrom (headF s) 1 Tryz.underlying9 (by kernel_rfl) ⟨.i64, by kernel_rfl⟩ (by exact List.length_pos_iff.2 (by assumption)) (L_call 54 [(S (List.drop 1 (headF s))), (.int .u8 58)] (by kernel_rfl) (by kernel_rfl) (c_furrowref03_until (List.drop 1 (headF s)) 58 _ (by (simp only [List.length_drop, List.length_take]; omega))) ?_))))))))
              rintro _ w46 ⟨rfl, hB47⟩
              replace hb := hb.trans (hB47.mono hs)
              replace hs := Nat.le_trans hs (hB47.size)
              replace o_x4 := obj_below o_x4 hB47
              replace o_x8 := obj_below o_x8 hB47
              have := unt_len 58 (List.drop 1 (headF s))
              refine L_mv (L_run (S ((untF 58 (List.drop 1 (headF s))).1)) (by kernel_rfl) (by kernel_rfl) (L_run (S ((untF 58 (List.drop 1 (headF s))).2.1)) (by kernel_rfl) (by kernel_rfl) (L_run (.bool ((untF 58 (List.drop 1 (headF s))).2.2)) (by kernel_rfl) (by kernel_rfl) (put_split ((untF 58 (List.drop 1 (headF s))).2.2) ?_ ?_))))
              · intro h49
                refine L_as (L_as (L_as (L_nil (thenQ_normal (W_seq (W_seq (W_region (L_mv (L_not true (by kernel_rfl) (L_mv (L_want (by kernel_rfl) (L_mv (L_want (by kernel_rfl) (L_call 55 [(S ((untF 58 (List.drop 1 (headF s))).1))] (by kernel_rfl) (by kernel_rfl) (c_furrowref03_named ((untF 58 (List.drop 1 (headF s))).1) _ (by (simp only [List.length_drop] at *; omega))) ?_))))))))))))))
                rintro _ w50 ⟨rfl, hB51⟩
                replace hb := hb.trans (hB51.mono hs)
                replace hs := Nat.le_trans hs (hB51.size)
                replace o_x4 := obj_below o_x4 hB51
                replace o_x8 := obj_below o_x8 hB51
                refine put_split (nameF ((untF 58 (List.drop 1 (headF s))).1)) ?_ ?_
                · intro h53
                  refine L_want (by kernel_rfl) (L_not true (by kernel_rfl) (L_pickF (by kernel_rfl) (L_nil (thenQ_normal (W_false (by kernel_rfl) (W_skip (thenQ_normal (W_seq (W_region (L_run (.pointer (some ⟨b11, 1, none⟩)) (by kernel_rfl) (by kernel_rfl) (L_store b11 1 (.int .u8 2) [(.int .i64 no), (.int .u8 0), (S ([] : List UInt8)), (.slice none 0 0), (S ([] : List UInt8))] [(.int .i64 no), (.int .u8 2), (S ([] : List UInt8)), (.slice none 0 0), (S ([] : List UInt8))] 49 (by kernel_rfl) (by kernel_rfl) rfl (by kernel_rfl) o_x8 (by simp) rfl ?_)))))))))))
                  intro w54 hW55
                  replace hb := hb.trans (hW55.below g_x8)
                  replace hs := Nat.le_trans hs (Nat.le_of_eq hW55.size.symm)
                  have n_o_x4 := obj_wrote o_x4 hW55 ne_x4_x8
                  replace o_x4 := n_o_x4; clear n_o_x4
                  replace o_x8 := hW55.here
                  refine L_nil (thenQ_normal (W_seq (W_region (L_mv (L_run (.pointer (some ⟨b11, 2, none⟩)) (by kernel_rfl) (by kernel_rfl) (L_store b11 2 (S ((untF 58 (List.drop 1 (headF s))).1)) [(.int .i64 no), (.int .u8 2), (S ([] : List UInt8)), (.slice none 0 0), (S ([] : List UInt8))] [(.int .i64 no), (.int .u8 2), (S ((untF 58 (List.drop 1 (headF s))).1)), (.slice none 0 0), (S ([] : List UInt8))] 49 (by kernel_rfl) (by kernel_rfl) rfl (by kernel_rfl) o_x8 (by simp) rfl ?_))))))
                  intro w56 hW57
                  replace hb := hb.trans (hW57.below g_x8)
                  replace hs := Nat.le_trans hs (Nat.le_of_eq hW57.size.symm)
                  have n_o_x4 := obj_wrote o_x4 hW57 ne_x4_x8
                  replace o_x4 := n_o_x4; clear n_o_x4
                  replace o_x8 := hW57.here
                  refine L_nil (thenQ_normal (W_seq (W_region (L_mv (L_call 56 [(S ((untF 58 (List.drop 1 (headF s))).2.1))] (by kernel_rfl) (by kernel_rfl) (c_furrowref03_Fields ((untF 58 (List.drop 1 (headF s))).2.1) _ (by (simp only [List.length_drop] at *; omega))) ?_)))))
                  rintro q58 w59 ⟨_, rfl, r_q58, hB60⟩
                  replace r_q58 := r_q58.base hs
                  replace hb := hb.trans (hB60.mono hs)
                  replace hs := Nat.le_trans hs (hB60.size)
                  replace o_x4 := obj_below o_x4 hB60
                  replace o_x8 := obj_below o_x8 hB60
                  refine L_run (.pointer (some ⟨b11, 3, none⟩)) (by kernel_rfl) (by kernel_rfl) (L_store b11 3 q58 [(.int .i64 no), (.int .u8 2), (S ((untF 58 (List.drop 1 (headF s))).1)), (.slice none 0 0), (S ([] : List UInt8))] [(.int .i64 no), (.int .u8 2), (S ((untF 58 (List.drop 1 (headF s))).1)), q58, (S ([] : List UInt8))] 49 (by kernel_rfl) (by kernel_rfl) r_q58.one (by kernel_rfl) o_x8 (by simp) rfl ?_)
                  intro w62 hW63
                  replace hb := hb.trans (hW63.below g_x8)
                  replace hs := Nat.le_trans hs (Nat.le_of_eq hW63.size.symm)
                  have n_o_x4 := obj_wrote o_x4 hW63 ne_x4_x8
                  have n_r_q58 := r_q58.wrote hW63 (r_q58.ne o_x8 (by simp))
                  replace o_x4 := n_o_x4; clear n_o_x4
                  replace r_q58 := n_r_q58; clear n_r_q58
                  replace o_x8 := hW63.here
                  refine L_nil (thenQ_normal (W_region (L_mv (L_run (.pointer (some ⟨b11, 4, none⟩)) (by kernel_rfl) (by kernel_rfl) (L_store b11 4 (S (noteF s)) [(.int .i64 no), (.int .u8 2), (S ((untF 58 (List.drop 1 (headF s))).1)), q58, (S ([] : List UInt8))] [(.int .i64 no), (.int .u8 2), (S ((untF 58 (List.drop 1 (headF s))).1)), q58, (S (noteF s))] 49 (by kernel_rfl) (by kernel_rfl) rfl (by kernel_rfl) o_x8 (by simp) rfl ?_)))))
                  intro w64 hW65
                  replace hb := hb.trans (hW65.below g_x8)
                  replace hs := Nat.le_trans hs (Nat.le_of_eq hW65.size.symm)
                  have n_o_x4 := obj_wrote o_x4 hW65 ne_x4_x8
                  have n_r_q58 := r_q58.wrote hW65 (r_q58.ne o_x8 (by simp))
                  replace o_x4 := n_o_x4; clear n_o_x4
                  replace r_q58 := n_r_q58; clear n_r_q58
                  replace o_x8 := hW65.here
                  refine L_nil (blkQ_normal (thenQ_normal (W_seq (W_region (L_loadA b11 0 [(.int .i64 no), (.int .u8 2), (S ((untF 58 (List.drop 1 (headF s))).1)), q58, (S (noteF s))] (by kernel_rfl) (by kernel_rfl) (by kernel_rfl) (cells_at o_x8 0 (by kernel_rfl)) (L_storeA b1 0 [(.int .i64 no), (.int .u8 2), (S ((untF 58 (List.drop 1 (headF s))).1)), q58, (S (noteF s))] [(.int .i64 0), (.int .u8 0), (S ([] : List UInt8)), (.slice none 0 0), (S ([] : List UInt8))] [(.int .i64 no), (.int .u8 2), (S ((untF 58 (List.drop 1 (headF s))).1)), q58, (S (noteF s))] 49 (by kernel_rfl) (by kernel_rfl) (allc rfl (allc rfl (allc rfl (allc r_q58.one (allc rfl rfl))))) (by kernel_rfl) o_x4 (by kernel_rfl) rfl ?_))))))
                  intro w66 hW67
                  replace hb := hb.trans (hW67.below g_x4)
                  replace hs := Nat.le_trans hs (Nat.le_of_eq hW67.size.symm)
                  have n_o_x8 := obj_wrote o_x8 hW67 ne_x8_x4
                  have n_r_q58 := r_q58.wrote hW67 (r_q58.ne o_x4 (by simp))
                  replace o_x8 := n_o_x8; clear n_o_x8
                  replace r_q58 := n_r_q58; clear n_r_q58
                  replace o_x4 := hW67.here
                  refine L_as (L_nil (thenQ_normal (W_ret ?_)))
                  refine end_ret [.cell 4 49, .tmp 5] [(Value.agg #[(.int .i64 no), (.int .u8 2), (S ((untF 58 (List.drop 1 (headF s))).1)), q58, (S (noteF s))]), (.int .i64 0)] rfl rfl ⟨⟨⟨b1, 0, none⟩, by kernel_rfl, load_agg [(.int .i64 no), (.int .u8 2), (S ((untF 58 (List.drop 1 (headF s))).1)), q58, (S (noteF s))] (by kernel_rfl) (by kernel_rfl) (cells_obj o_x4)⟩, by kernel_rfl, trivial⟩ ?_
                  have hE : ((Value.agg #[(.int .i64 no), (.int .u8 2), (S ((untF 58 (List.drop 1 (headF s))).1)), q58, (S (noteF s))]) = (Value.agg #[(.int .i64 ((scanF no s).1.1)), (.int .u8 ((scanF no s).1.2.1)), (S ((scanF no s).1.2.2.1)), q58, (S ((scanF no s).1.2.2.2.2))])) ∧ ((0 : Int) = (scanF no s).2) ∧ (fieldsF ((untF 58 (List.drop 1 (headF s))).2.1) = (scanF no s).1.2.2.2.1) := ⟨(by exact absurd (by assumption) (by assumption : headF s ≠ [])), (by exact absurd (by assumption) (by assumption : headF s ≠ [])), (by exact absurd (by assumption) (by assumption : headF s ≠ []))⟩
                  exact ⟨q58, tup2 (hE.1) (congrArg (Value.int .i64) hE.2.1), r_q58.cast hE.2.2, hb⟩
                · intro h68
                  refine L_want (by kernel_rfl) (L_not false (by kernel_rfl) (L_pickF (by kernel_rfl) (L_nil (thenQ_normal (W_true (by kernel_rfl) (W_seq (W_region (L_run (Value.agg #[(.int .i64 0), (.int .u8 0), (S ([] : List UInt8)), (.slice none 0 0), (S ([] : List UInt8))]) (by kernel_rfl) (by kernel_rfl) (L_storeA b1 0 [(.int .i64 0), (.int .u8 0), (S ([] : List UInt8)), (.slice none 0 0), (S ([] : List UInt8))] [(.int .i64 0), (.int .u8 0), (S ([] : List UInt8)), (.slice none 0 0), (S ([] : List UInt8))] [(.int .i64 0), (.int .u8 0), (S ([] : List UInt8)), (.slice none 0 0), (S ([] : List UInt8))] 49 (by kernel_rfl) (by kernel_rfl) rfl (by kernel_rfl) o_x4 (by kernel_rfl) rfl ?_)))))))))
                  intro w69 hW70
                  replace hb := hb.trans (hW70.below g_x4)
                  replace hs := Nat.le_trans hs (Nat.le_of_eq hW70.size.symm)
                  have n_o_x8 := obj_wrote o_x8 hW70 ne_x8_x4
                  replace o_x8 := n_o_x8; clear n_o_x8
                  replace o_x4 := hW70.here
                  refine L_as (L_nil (thenQ_normal (W_ret (thenQ_ret (blkQ_ret (thenQ_ret ?_))))))
                  refine end_ret [.cell 4 49, .tmp 5] [(Value.agg #[(.int .i64 0), (.int .u8 0), (S ([] : List UInt8)), (.slice none 0 0), (S ([] : List UInt8))]), (.int .i64 33)] rfl rfl ⟨⟨⟨b1, 0, none⟩, by kernel_rfl, load_agg [(.int .i64 0), (.int .u8 0), (S ([] : List UInt8)), (.slice none 0 0), (S ([] : List UInt8))] (by kernel_rfl) (by kernel_rfl) (cells_obj o_x4)⟩, by kernel_rfl, trivial⟩ ?_
                  have hE : ((Value.agg #[(.int .i64 0), (.int .u8 0), (S ([] : List UInt8)), (.slice none 0 0), (S ([] : List UInt8))]) = (Value.agg #[(.int .i64 ((scanF no s).1.1)), (.int .u8 ((scanF no s).1.2.1)), (S ((scanF no s).1.2.2.1)), (.slice none 0 0), (S ((scanF no s).1.2.2.2.2))])) ∧ ((33 : Int) = (scanF no s).2) ∧ (([] : List (List UInt8)) = (scanF no s).1.2.2.2.1) := ⟨(by exact absurd (by assumption) (by assumption : headF s ≠ [])), (by exact absurd (by assumption) (by assumption : headF s ≠ [])), (by exact absurd (by assumption) (by assumption : headF s ≠ []))⟩
                  exact ⟨(.slice none 0 0), tup2 (hE.1) (congrArg (Value.int .i64) hE.2.1), (Row.nil _ _ _ _ _).cast hE.2.2, hb⟩
              · intro h71
                refine L_as (L_as (L_as (L_nil (thenQ_normal (W_seq (W_seq (W_region (L_mv (L_not false (by kernel_rfl) (L_mv (L_skip (by kernel_rfl) (L_skip (by kernel_rfl) (L_skip (by kernel_rfl) (L_pickT (by kernel_rfl) (L_nil (thenQ_normal (W_true (by kernel_rfl) (W_seq (W_region (L_run (Value.agg #[(.int .i64 0), (.int .u8 0), (S ([] : List UInt8)), (.slice none 0 0), (S ([] : List UInt8))]) (by kernel_rfl) (by kernel_rfl) (L_storeA b1 0 [(.int .i64 0), (.int .u8 0), (S ([] : List UInt8)), (.slice none 0 0), (S ([] : List UInt8))] [(.int .i64 0), (.int .u8 0), (S ([] : List UInt8)), (.slice none 0 0), (S ([] : List UInt8))] [(.int .i64 0), (.int .u8 0), (S ([] : List UInt8)), (.slice none 0 0), (S ([] : List UInt8))] 49 (by kernel_rfl) (by kernel_rfl) rfl (by kernel_rfl) o_x4 (by kernel_rfl) rfl ?_)))))))))))))))))))))
                intro w72 hW73
                replace hb := hb.trans (hW73.below g_x4)
                replace hs := Nat.le_trans hs (Nat.le_of_eq hW73.size.symm)
                have n_o_x8 := obj_wrote o_x8 hW73 ne_x8_x4
                replace o_x8 := n_o_x8; clear n_o_x8
                replace o_x4 := hW73.here
                refine L_as (L_nil (thenQ_normal (W_ret (thenQ_ret (blkQ_ret (thenQ_ret ?_))))))
                refine end_ret [.cell 4 49, .tmp 5] [(Value.agg #[(.int .i64 0), (.int .u8 0), (S ([] : List UInt8)), (.slice none 0 0), (S ([] : List UInt8))]), (.int .i64 33)] rfl rfl ⟨⟨⟨b1, 0, none⟩, by kernel_rfl, load_agg [(.int .i64 0), (.int .u8 0), (S ([] : List UInt8)), (.slice none 0 0), (S ([] : List UInt8))] (by kernel_rfl) (by kernel_rfl) (cells_obj o_x4)⟩, by kernel_rfl, trivial⟩ ?_
                have hE : ((Value.agg #[(.int .i64 0), (.int .u8 0), (S ([] : List UInt8)), (.slice none 0 0), (S ([] : List UInt8))]) = (Value.agg #[(.int .i64 ((scanF no s).1.1)), (.int .u8 ((scanF no s).1.2.1)), (S ((scanF no s).1.2.2.1)), (.slice none 0 0), (S ((scanF no s).1.2.2.2.2))])) ∧ ((33 : Int) = (scanF no s).2) ∧ (([] : List (List UInt8)) = (scanF no s).1.2.2.2.1) := ⟨(by exact absurd (by assumption) (by assumption : headF s ≠ [])), (by exact absurd (by assumption) (by assumption : headF s ≠ [])), (by exact absurd (by assumption) (by assumption : headF s ≠ []))⟩
                exact ⟨(.slice none 0 0), tup2 (hE.1) (congrArg (Value.int .i64) hE.2.1), (Row.nil _ _ _ _ _).cast hE.2.2, hb⟩
            · intro h74
              replace h74 : c43.toNat ≠ 64 := by omega
              refine L_as (L_nil (thenQ_normal (W_false (by kernel_rfl) (W_seq (W_region (L_run (.pointer (some ⟨b11, 1, none⟩)) (by kernel_rfl) (by kernel_rfl) (L_store b11 1 (.int .u8 1) [(.int .i64 no), (.int .u8 0), (S ([] : List UInt8)), (.slice none 0 0), (S ([] : List UInt8))] [(.int .i64 no), (.int .u8 1), (S ([] : List UInt8)), (.slice none 0 0), (S ([] : List UInt8))] 49 (by kernel_rfl) (by kernel_rfl) rfl (by kernel_rfl) o_x8 (by simp) rfl ?_)))))))
              intro w75 hW76
              replace hb := hb.trans (hW76.below g_x8)
              replace hs := Nat.le_trans hs (Nat.le_of_eq hW76.size.symm)
              have n_o_x4 := obj_wrote o_x4 hW76 ne_x4_x8
              replace o_x4 := n_o_x4; clear n_o_x4
              replace o_x8 := hW76.here
              refine L_nil (thenQ_normal (W_seq (W_region (L_mv (L_call 56 [(S (headF s))] (by kernel_rfl) (by kernel_rfl) (c_furrowref03_Fields (headF s) _ (by omega)) ?_)))))
              rintro q77 w78 ⟨_, rfl, r_q77, hB79⟩
              replace r_q77 := r_q77.base hs
              replace hb := hb.trans (hB79.mono hs)
              replace hs := Nat.le_trans hs (hB79.size)
              replace o_x4 := obj_below o_x4 hB79
              replace o_x8 := obj_below o_x8 hB79
              refine L_run (.pointer (some ⟨b11, 3, none⟩)) (by kernel_rfl) (by kernel_rfl) (L_store b11 3 q77 [(.int .i64 no), (.int .u8 1), (S ([] : List UInt8)), (.slice none 0 0), (S ([] : List UInt8))] [(.int .i64 no), (.int .u8 1), (S ([] : List UInt8)), q77, (S ([] : List UInt8))] 49 (by kernel_rfl) (by kernel_rfl) r_q77.one (by kernel_rfl) o_x8 (by simp) rfl ?_)
              intro w81 hW82
              replace hb := hb.trans (hW82.below g_x8)
              replace hs := Nat.le_trans hs (Nat.le_of_eq hW82.size.symm)
              have n_o_x4 := obj_wrote o_x4 hW82 ne_x4_x8
              have n_r_q77 := r_q77.wrote hW82 (r_q77.ne o_x8 (by simp))
              replace o_x4 := n_o_x4; clear n_o_x4
              replace r_q77 := n_r_q77; clear n_r_q77
              replace o_x8 := hW82.here
              refine L_nil (thenQ_normal (W_region (L_mv (L_run (.pointer (some ⟨b11, 4, none⟩)) (by kernel_rfl) (by kernel_rfl) (L_store b11 4 (S (noteF s)) [(.int .i64 no), (.int .u8 1), (S ([] : List UInt8)), q77, (S ([] : List UInt8))] [(.int .i64 no), (.int .u8 1), (S ([] : List UInt8)), q77, (S (noteF s))] 49 (by kernel_rfl) (by kernel_rfl) rfl (by kernel_rfl) o_x8 (by simp) rfl ?_)))))
              intro w83 hW84
              replace hb := hb.trans (hW84.below g_x8)
              replace hs := Nat.le_trans hs (Nat.le_of_eq hW84.size.symm)
              have n_o_x4 := obj_wrote o_x4 hW84 ne_x4_x8
              have n_r_q77 := r_q77.wrote hW84 (r_q77.ne o_x8 (by simp))
              replace o_x4 := n_o_x4; clear n_o_x4
              replace r_q77 := n_r_q77; clear n_r_q77
              replace o_x8 := hW84.here
              refine L_nil (blkQ_normal (thenQ_normal (W_seq (W_region (L_loadA b11 0 [(.int .i64 no), (.int .u8 1), (S ([] : List UInt8)), q77, (S (noteF s))] (by kernel_rfl) (by kernel_rfl) (by kernel_rfl) (cells_at o_x8 0 (by kernel_rfl)) (L_storeA b1 0 [(.int .i64 no), (.int .u8 1), (S ([] : List UInt8)), q77, (S (noteF s))] [(.int .i64 0), (.int .u8 0), (S ([] : List UInt8)), (.slice none 0 0), (S ([] : List UInt8))] [(.int .i64 no), (.int .u8 1), (S ([] : List UInt8)), q77, (S (noteF s))] 49 (by kernel_rfl) (by kernel_rfl) (allc rfl (allc rfl (allc rfl (allc r_q77.one (allc rfl rfl))))) (by kernel_rfl) o_x4 (by kernel_rfl) rfl ?_))))))
              intro w85 hW86
              replace hb := hb.trans (hW86.below g_x4)
              replace hs := Nat.le_trans hs (Nat.le_of_eq hW86.size.symm)
              have n_o_x8 := obj_wrote o_x8 hW86 ne_x8_x4
              have n_r_q77 := r_q77.wrote hW86 (r_q77.ne o_x4 (by simp))
              replace o_x8 := n_o_x8; clear n_o_x8
              replace r_q77 := n_r_q77; clear n_r_q77
              replace o_x4 := hW86.here
              refine L_as (L_nil (thenQ_normal (W_ret ?_)))
              refine end_ret [.cell 4 49, .tmp 5] [(Value.agg #[(.int .i64 no), (.int .u8 1), (S ([] : List UInt8)), q77, (S (noteF s))]), (.int .i64 0)] rfl rfl ⟨⟨⟨b1, 0, none⟩, by kernel_rfl, load_agg [(.int .i64 no), (.int .u8 1), (S ([] : List UInt8)), q77, (S (noteF s))] (by kernel_rfl) (by kernel_rfl) (cells_obj o_x4)⟩, by kernel_rfl, trivial⟩ ?_
              have hE : ((Value.agg #[(.int .i64 no), (.int .u8 1), (S ([] : List UInt8)), q77, (S (noteF s))]) = (Value.agg #[(.int .i64 ((scanF no s).1.1)), (.int .u8 ((scanF no s).1.2.1)), (S ((scanF no s).1.2.2.1)), q77, (S ((scanF no s).1.2.2.2.2))])) ∧ ((0 : Int) = (scanF no s).2) ∧ (fieldsF (headF s) = (scanF no s).1.2.2.2.1) := ⟨(by exact absurd (by assumption) (by assumption : headF s ≠ [])), (by exact absurd (by assumption) (by assumption : headF s ≠ [])), (by exact absurd (by assumption) (by assumption : headF s ≠ []))⟩
              exact ⟨q77, tup2 (hE.1) (congrArg (Value.int .i64) hE.2.1), r_q77.cast hE.2.2, hb⟩
      · intro h87
        replace h87 : ((noteF s)).length < 9 := by omega
        refine L_pickT (by kernel_rfl) (L_mv (L_skip (by kernel_rfl) (L_skip (by kernel_rfl) (L_skip (by kernel_rfl) (L_pickF (by kernel_rfl) (L_as (L_nil (thenQ_normal (W_false (by kernel_rfl) (W_seq (W_region (L_mv (L_seq (headF s) ([] : List UInt8) rfl (by kernel_rfl) (by kernel_rfl) ?_ ?_)))))))))))))
        · intro h88
          refine L_as (L_nil (thenQ_normal (W_true (by kernel_rfl) (W_seq (W_region (L_run (.pointer (some ⟨b11, 1, none⟩)) (by kernel_rfl) (by kernel_rfl) (L_store b11 1 (.int .u8 0) [(.int .i64 no), (.int .u8 0), (S ([] : List UInt8)), (.slice none 0 0), (S ([] : List UInt8))] [(.int .i64 no), (.int .u8 0), (S ([] : List UInt8)), (.slice none 0 0), (S ([] : List UInt8))] 49 (by kernel_rfl) (by kernel_rfl) rfl (by kernel_rfl) o_x8 (by simp) rfl ?_)))))))
          intro w89 hW90
          replace hb := hb.trans (hW90.below g_x8)
          replace hs := Nat.le_trans hs (Nat.le_of_eq hW90.size.symm)
          have n_o_x4 := obj_wrote o_x4 hW90 ne_x4_x8
          replace o_x4 := n_o_x4; clear n_o_x4
          replace o_x8 := hW90.here
          refine L_nil (thenQ_normal (W_region (L_mv (L_run (.pointer (some ⟨b11, 4, none⟩)) (by kernel_rfl) (by kernel_rfl) (L_store b11 4 (S (noteF s)) [(.int .i64 no), (.int .u8 0), (S ([] : List UInt8)), (.slice none 0 0), (S ([] : List UInt8))] [(.int .i64 no), (.int .u8 0), (S ([] : List UInt8)), (.slice none 0 0), (S (noteF s))] 49 (by kernel_rfl) (by kernel_rfl) rfl (by kernel_rfl) o_x8 (by simp) rfl ?_)))))
          intro w91 hW92
          replace hb := hb.trans (hW92.below g_x8)
          replace hs := Nat.le_trans hs (Nat.le_of_eq hW92.size.symm)
          have n_o_x4 := obj_wrote o_x4 hW92 ne_x4_x8
          replace o_x4 := n_o_x4; clear n_o_x4
          replace o_x8 := hW92.here
          refine L_nil (blkQ_normal (thenQ_normal (W_seq (W_region (L_loadA b11 0 [(.int .i64 no), (.int .u8 0), (S ([] : List UInt8)), (.slice none 0 0), (S (noteF s))] (by kernel_rfl) (by kernel_rfl) (by kernel_rfl) (cells_at o_x8 0 (by kernel_rfl)) (L_storeA b1 0 [(.int .i64 no), (.int .u8 0), (S ([] : List UInt8)), (.slice none 0 0), (S (noteF s))] [(.int .i64 0), (.int .u8 0), (S ([] : List UInt8)), (.slice none 0 0), (S ([] : List UInt8))] [(.int .i64 no), (.int .u8 0), (S ([] : List UInt8)), (.slice none 0 0), (S (noteF s))] 49 (by kernel_rfl) (by kernel_rfl) rfl (by kernel_rfl) o_x4 (by kernel_rfl) rfl ?_))))))
          intro w93 hW94
          replace hb := hb.trans (hW94.below g_x4)
          replace hs := Nat.le_trans hs (Nat.le_of_eq hW94.size.symm)
          have n_o_x8 := obj_wrote o_x8 hW94 ne_x8_x4
          replace o_x8 := n_o_x8; clear n_o_x8
          replace o_x4 := hW94.here
          refine L_as (L_nil (thenQ_normal (W_ret ?_)))
          refine end_ret [.cell 4 49, .tmp 5] [(Value.agg #[(.int .i64 no), (.int .u8 0), (S ([] : List UInt8)), (.slice none 0 0), (S (noteF s))]), (.int .i64 0)] rfl rfl ⟨⟨⟨b1, 0, none⟩, by kernel_rfl, load_agg [(.int .i64 no), (.int .u8 0), (S ([] : List UInt8)), (.slice none 0 0), (S (noteF s))] (by kernel_rfl) (by kernel_rfl) (cells_obj o_x4)⟩, by kernel_rfl, trivial⟩ ?_
          have hE : ((Value.agg #[(.int .i64 no), (.int .u8 0), (S ([] : List UInt8)), (.slice none 0 0), (S (noteF s))]) = (Value.agg #[(.int .i64 ((scanF no s).1.1)), (.int .u8 ((scanF no s).1.2.1)), (S ((scanF no s).1.2.2.1)), (.slice none 0 0), (S ((scanF no s).1.2.2.2.2))])) ∧ ((0 : Int) = (scanF no s).2) ∧ (([] : List (List UInt8)) = (scanF no s).1.2.2.2.1) := ⟨(by (rw [scanR_blank (by assumption) (by assumption) (hp_not (p := missT) (.inl (by assumption)))]; try rfl; done)), (by (rw [scanR_blank (by assumption) (by assumption) (hp_not (p := missT) (.inl (by assumption)))]; try rfl; done)), (by (rw [scanR_blank (by assumption) (by assumption) (hp_not (p := missT) (.inl (by assumption)))]; try rfl; done))⟩
          exact ⟨(.slice none 0 0), tup2 (hE.1) (congrArg (Value.int .i64) hE.2.1), (Row.nil _ _ _ _ _).cast hE.2.2, hb⟩
        · intro h95
          refine L_as (L_nil (thenQ_normal (W_false (by kernel_rfl) (W_seq (W_region (L_mv ?_))))))
          have hz := get_some (headF s) 0 (by exact List.length_pos_iff.2 (by assumption)); obtain ⟨c96, hc97⟩ := hz
          have := c96.toNat_lt
          refine L_sindex (k := .i64) (headF s) 0 c96 Tryz.underlying9 hc97 (by kernel_rfl) (by kernel_rfl) (L_cmp .u8 ((c96.toNat : Nat) : Int) ((64 : Nat) : Int) (c96.toNat = 64) rfl (cmpN_eq c96.toNat 64) (by kernel_rfl) (by kernel_rfl) ?_ ?_)
          · intro h98
            replace h98 : c96.toNat = 64 := by omega
            refine L_as (L_nil (thenQ_normal (W_true (by kernel_rfl) (W_seq (W_region (L_mv (L_ssfrom (headF s) 1 Tryz.underlying9 (by kernel_rfl) ⟨.i64, by kernel_rfl⟩ (by exact List.length_pos_iff.2 (by assumption)) (L_call 54 [(S (List.drop 1 (headF s))), (.int .u8 58)] (by kernel_rfl) (by kernel_rfl) (c_furrowref03_until (List.drop 1 (headF s)) 58 _ (by (simp only [List.length_drop, List.length_take]; omega))) ?_))))))))
            rintro _ w99 ⟨rfl, hB100⟩
            replace hb := hb.trans (hB100.mono hs)
            replace hs := Nat.le_trans hs (hB100.size)
            replace o_x4 := obj_below o_x4 hB100
            replace o_x8 := obj_below o_x8 hB100
            have := unt_len 58 (List.drop 1 (headF s))
            refine L_mv (L_run (S ((untF 58 (List.drop 1 (headF s))).1)) (by kernel_rfl) (by kernel_rfl) (L_run (S ((untF 58 (List.drop 1 (headF s))).2.1)) (by kernel_rfl) (by kernel_rfl) (L_run (.bool ((untF 58 (List.drop 1 (headF s))).2.2)) (by kernel_rfl) (by kernel_rfl) (put_split ((untF 58 (List.drop 1 (headF s))).2.2) ?_ ?_))))
            · intro h102
              refine L_as (L_as (L_as (L_nil (thenQ_normal (W_seq (W_seq (W_region (L_mv (L_not true (by kernel_rfl) (L_mv (L_want (by kernel_rfl) (L_mv (L_want (by kernel_rfl) (L_call 55 [(S ((untF 58 (List.drop 1 (headF s))).1))] (by kernel_rfl) (by kernel_rfl) (c_furrowref03_named ((untF 58 (List.drop 1 (headF s))).1) _ (by (simp only [List.length_drop] at *; omega))) ?_))))))))))))))
              rintro _ w103 ⟨rfl, hB104⟩
              replace hb := hb.trans (hB104.mono hs)
              replace hs := Nat.le_trans hs (hB104.size)
              replace o_x4 := obj_below o_x4 hB104
              replace o_x8 := obj_below o_x8 hB104
              refine put_split (nameF ((untF 58 (List.drop 1 (headF s))).1)) ?_ ?_
              · intro h106
                refine L_want (by kernel_rfl) (L_not true (by kernel_rfl) (L_pickF (by kernel_rfl) (L_nil (thenQ_normal (W_false (by kernel_rfl) (W_skip (thenQ_normal (W_seq (W_region (L_run (.pointer (some ⟨b11, 1, none⟩)) (by kernel_rfl) (by kernel_rfl) (L_store b11 1 (.int .u8 2) [(.int .i64 no), (.int .u8 0), (S ([] : List UInt8)), (.slice none 0 0), (S ([] : List UInt8))] [(.int .i64 no), (.int .u8 2), (S ([] : List UInt8)), (.slice none 0 0), (S ([] : List UInt8))] 49 (by kernel_rfl) (by kernel_rfl) rfl (by kernel_rfl) o_x8 (by simp) rfl ?_)))))))))))
                intro w107 hW108
                replace hb := hb.trans (hW108.below g_x8)
                replace hs := Nat.le_trans hs (Nat.le_of_eq hW108.size.symm)
                have n_o_x4 := obj_wrote o_x4 hW108 ne_x4_x8
                replace o_x4 := n_o_x4; clear n_o_x4
                replace o_x8 := hW108.here
                refine L_nil (thenQ_normal (W_seq (W_region (L_mv (L_run (.pointer (some ⟨b11, 2, none⟩)) (by kernel_rfl) (by kernel_rfl) (L_store b11 2 (S ((untF 58 (List.drop 1 (headF s))).1)) [(.int .i64 no), (.int .u8 2), (S ([] : List UInt8)), (.slice none 0 0), (S ([] : List UInt8))] [(.int .i64 no), (.int .u8 2), (S ((untF 58 (List.drop 1 (headF s))).1)), (.slice none 0 0), (S ([] : List UInt8))] 49 (by kernel_rfl) (by kernel_rfl) rfl (by kernel_rfl) o_x8 (by simp) rfl ?_))))))
                intro w109 hW110
                replace hb := hb.trans (hW110.below g_x8)
                replace hs := Nat.le_trans hs (Nat.le_of_eq hW110.size.symm)
                have n_o_x4 := obj_wrote o_x4 hW110 ne_x4_x8
                replace o_x4 := n_o_x4; clear n_o_x4
                replace o_x8 := hW110.here
                refine L_nil (thenQ_normal (W_seq (W_region (L_mv (L_call 56 [(S ((untF 58 (List.drop 1 (headF s))).2.1))] (by kernel_rfl) (by kernel_rfl) (c_furrowref03_Fields ((untF 58 (List.drop 1 (headF s))).2.1) _ (by (simp only [List.length_drop] at *; omega))) ?_)))))
                rintro q111 w112 ⟨_, rfl, r_q111, hB113⟩
                replace r_q111 := r_q111.base hs
                replace hb := hb.trans (hB113.mono hs)
                replace hs := Nat.le_trans hs (hB113.size)
                replace o_x4 := obj_below o_x4 hB113
                replace o_x8 := obj_below o_x8 hB113
                refine L_run (.pointer (some ⟨b11, 3, none⟩)) (by kernel_rfl) (by kernel_rfl) (L_store b11 3 q111 [(.int .i64 no), (.int .u8 2), (S ((untF 58 (List.drop 1 (headF s))).1)), (.slice none 0 0), (S ([] : List UInt8))] [(.int .i64 no), (.int .u8 2), (S ((untF 58 (List.drop 1 (headF s))).1)), q111, (S ([] : List UInt8))] 49 (by kernel_rfl) (by kernel_rfl) r_q111.one (by kernel_rfl) o_x8 (by simp) rfl ?_)
                intro w115 hW116
                replace hb := hb.trans (hW116.below g_x8)
                replace hs := Nat.le_trans hs (Nat.le_of_eq hW116.size.symm)
                have n_o_x4 := obj_wrote o_x4 hW116 ne_x4_x8
                have n_r_q111 := r_q111.wrote hW116 (r_q111.ne o_x8 (by simp))
                replace o_x4 := n_o_x4; clear n_o_x4
                replace r_q111 := n_r_q111; clear n_r_q111
                replace o_x8 := hW116.here
                refine L_nil (thenQ_normal (W_region (L_mv (L_run (.pointer (some ⟨b11, 4, none⟩)) (by kernel_rfl) (by kernel_rfl) (L_store b11 4 (S (noteF s)) [(.int .i64 no), (.int .u8 2), (S ((untF 58 (List.drop 1 (headF s))).1)), q111, (S ([] : List UInt8))] [(.int .i64 no), (.int .u8 2), (S ((untF 58 (List.drop 1 (headF s))).1)), q111, (S (noteF s))] 49 (by kernel_rfl) (by kernel_rfl) rfl (by kernel_rfl) o_x8 (by simp) rfl ?_)))))
                intro w117 hW118
                replace hb := hb.trans (hW118.below g_x8)
                replace hs := Nat.le_trans hs (Nat.le_of_eq hW118.size.symm)
                have n_o_x4 := obj_wrote o_x4 hW118 ne_x4_x8
                have n_r_q111 := r_q111.wrote hW118 (r_q111.ne o_x8 (by simp))
                replace o_x4 := n_o_x4; clear n_o_x4
                replace r_q111 := n_r_q111; clear n_r_q111
                replace o_x8 := hW118.here
                refine L_nil (blkQ_normal (thenQ_normal (W_seq (W_region (L_loadA b11 0 [(.int .i64 no), (.int .u8 2), (S ((untF 58 (List.drop 1 (headF s))).1)), q111, (S (noteF s))] (by kernel_rfl) (by kernel_rfl) (by kernel_rfl) (cells_at o_x8 0 (by kernel_rfl)) (L_storeA b1 0 [(.int .i64 no), (.int .u8 2), (S ((untF 58 (List.drop 1 (headF s))).1)), q111, (S (noteF s))] [(.int .i64 0), (.int .u8 0), (S ([] : List UInt8)), (.slice none 0 0), (S ([] : List UInt8))] [(.int .i64 no), (.int .u8 2), (S ((untF 58 (List.drop 1 (headF s))).1)), q111, (S (noteF s))] 49 (by kernel_rfl) (by kernel_rfl) (allc rfl (allc rfl (allc rfl (allc r_q111.one (allc rfl rfl))))) (by kernel_rfl) o_x4 (by kernel_rfl) rfl ?_))))))
                intro w119 hW120
                replace hb := hb.trans (hW120.below g_x4)
                replace hs := Nat.le_trans hs (Nat.le_of_eq hW120.size.symm)
                have n_o_x8 := obj_wrote o_x8 hW120 ne_x8_x4
                have n_r_q111 := r_q111.wrote hW120 (r_q111.ne o_x4 (by simp))
                replace o_x8 := n_o_x8; clear n_o_x8
                replace r_q111 := n_r_q111; clear n_r_q111
                replace o_x4 := hW120.here
                refine L_as (L_nil (thenQ_normal (W_ret ?_)))
                refine end_ret [.cell 4 49, .tmp 5] [(Value.agg #[(.int .i64 no), (.int .u8 2), (S ((untF 58 (List.drop 1 (headF s))).1)), q111, (S (noteF s))]), (.int .i64 0)] rfl rfl ⟨⟨⟨b1, 0, none⟩, by kernel_rfl, load_agg [(.int .i64 no), (.int .u8 2), (S ((untF 58 (List.drop 1 (headF s))).1)), q111, (S (noteF s))] (by kernel_rfl) (by kernel_rfl) (cells_obj o_x4)⟩, by kernel_rfl, trivial⟩ ?_
                have hE : ((Value.agg #[(.int .i64 no), (.int .u8 2), (S ((untF 58 (List.drop 1 (headF s))).1)), q111, (S (noteF s))]) = (Value.agg #[(.int .i64 ((scanF no s).1.1)), (.int .u8 ((scanF no s).1.2.1)), (S ((scanF no s).1.2.2.1)), q111, (S ((scanF no s).1.2.2.2.2))])) ∧ ((0 : Int) = (scanF no s).2) ∧ (fieldsF ((untF 58 (List.drop 1 (headF s))).2.1) = (scanF no s).1.2.2.2.1) := ⟨(by exact absurd (by assumption) (by assumption : headF s ≠ [])), (by exact absurd (by assumption) (by assumption : headF s ≠ [])), (by exact absurd (by assumption) (by assumption : headF s ≠ []))⟩
                exact ⟨q111, tup2 (hE.1) (congrArg (Value.int .i64) hE.2.1), r_q111.cast hE.2.2, hb⟩
              · intro h121
                refine L_want (by kernel_rfl) (L_not false (by kernel_rfl) (L_pickF (by kernel_rfl) (L_nil (thenQ_normal (W_true (by kernel_rfl) (W_seq (W_region (L_run (Value.agg #[(.int .i64 0), (.int .u8 0), (S ([] : List UInt8)), (.slice none 0 0), (S ([] : List UInt8))]) (by kernel_rfl) (by kernel_rfl) (L_storeA b1 0 [(.int .i64 0), (.int .u8 0), (S ([] : List UInt8)), (.slice none 0 0), (S ([] : List UInt8))] [(.int .i64 0), (.int .u8 0), (S ([] : List UInt8)), (.slice none 0 0), (S ([] : List UInt8))] [(.int .i64 0), (.int .u8 0), (S ([] : List UInt8)), (.slice none 0 0), (S ([] : List UInt8))] 49 (by kernel_rfl) (by kernel_rfl) rfl (by kernel_rfl) o_x4 (by kernel_rfl) rfl ?_)))))))))
                intro w122 hW123
                replace hb := hb.trans (hW123.below g_x4)
                replace hs := Nat.le_trans hs (Nat.le_of_eq hW123.size.symm)
                have n_o_x8 := obj_wrote o_x8 hW123 ne_x8_x4
                replace o_x8 := n_o_x8; clear n_o_x8
                replace o_x4 := hW123.here
                refine L_as (L_nil (thenQ_normal (W_ret (thenQ_ret (blkQ_ret (thenQ_ret ?_))))))
                refine end_ret [.cell 4 49, .tmp 5] [(Value.agg #[(.int .i64 0), (.int .u8 0), (S ([] : List UInt8)), (.slice none 0 0), (S ([] : List UInt8))]), (.int .i64 33)] rfl rfl ⟨⟨⟨b1, 0, none⟩, by kernel_rfl, load_agg [(.int .i64 0), (.int .u8 0), (S ([] : List UInt8)), (.slice none 0 0), (S ([] : List UInt8))] (by kernel_rfl) (by kernel_rfl) (cells_obj o_x4)⟩, by kernel_rfl, trivial⟩ ?_
                have hE : ((Value.agg #[(.int .i64 0), (.int .u8 0), (S ([] : List UInt8)), (.slice none 0 0), (S ([] : List UInt8))]) = (Value.agg #[(.int .i64 ((scanF no s).1.1)), (.int .u8 ((scanF no s).1.2.1)), (S ((scanF no s).1.2.2.1)), (.slice none 0 0), (S ((scanF no s).1.2.2.2.2))])) ∧ ((33 : Int) = (scanF no s).2) ∧ (([] : List (List UInt8)) = (scanF no s).1.2.2.2.1) := ⟨(by exact absurd (by assumption) (by assumption : headF s ≠ [])), (by exact absurd (by assumption) (by assumption : headF s ≠ [])), (by exact absurd (by assumption) (by assumption : headF s ≠ []))⟩
                exact ⟨(.slice none 0 0), tup2 (hE.1) (congrArg (Value.int .i64) hE.2.1), (Row.nil _ _ _ _ _).cast hE.2.2, hb⟩
            · intro h124
              refine L_as (L_as (L_as (L_nil (thenQ_normal (W_seq (W_seq (W_region (L_mv (L_not false (by kernel_rfl) (L_mv (L_skip (by kernel_rfl) (L_skip (by kernel_rfl) (L_skip (by kernel_rfl) (L_pickT (by kernel_rfl) (L_nil (thenQ_normal (W_true (by kernel_rfl) (W_seq (W_region (L_run (Value.agg #[(.int .i64 0), (.int .u8 0), (S ([] : List UInt8)), (.slice none 0 0), (S ([] : List UInt8))]) (by kernel_rfl) (by kernel_rfl) (L_storeA b1 0 [(.int .i64 0), (.int .u8 0), (S ([] : List UInt8)), (.slice none 0 0), (S ([] : List UInt8))] [(.int .i64 0), (.int .u8 0), (S ([] : List UInt8)), (.slice none 0 0), (S ([] : List UInt8))] [(.int .i64 0), (.int .u8 0), (S ([] : List UInt8)), (.slice none 0 0), (S ([] : List UInt8))] 49 (by kernel_rfl) (by kernel_rfl) rfl (by kernel_rfl) o_x4 (by kernel_rfl) rfl ?_)))))))))))))))))))))
              intro w125 hW126
              replace hb := hb.trans (hW126.below g_x4)
              replace hs := Nat.le_trans hs (Nat.le_of_eq hW126.size.symm)
              have n_o_x8 := obj_wrote o_x8 hW126 ne_x8_x4
              replace o_x8 := n_o_x8; clear n_o_x8
              replace o_x4 := hW126.here
              refine L_as (L_nil (thenQ_normal (W_ret (thenQ_ret (blkQ_ret (thenQ_ret ?_))))))
              refine end_ret [.cell 4 49, .tmp 5] [(Value.agg #[(.int .i64 0), (.int .u8 0), (S ([] : List UInt8)), (.slice none 0 0), (S ([] : List UInt8))]), (.int .i64 33)] rfl rfl ⟨⟨⟨b1, 0, none⟩, by kernel_rfl, load_agg [(.int .i64 0), (.int .u8 0), (S ([] : List UInt8)), (.slice none 0 0), (S ([] : List UInt8))] (by kernel_rfl) (by kernel_rfl) (cells_obj o_x4)⟩, by kernel_rfl, trivial⟩ ?_
              have hE : ((Value.agg #[(.int .i64 0), (.int .u8 0), (S ([] : List UInt8)), (.slice none 0 0), (S ([] : List UInt8))]) = (Value.agg #[(.int .i64 ((scanF no s).1.1)), (.int .u8 ((scanF no s).1.2.1)), (S ((scanF no s).1.2.2.1)), (.slice none 0 0), (S ((scanF no s).1.2.2.2.2))])) ∧ ((33 : Int) = (scanF no s).2) ∧ (([] : List (List UInt8)) = (scanF no s).1.2.2.2.1) := ⟨(by exact absurd (by assumption) (by assumption : headF s ≠ [])), (by exact absurd (by assumption) (by assumption : headF s ≠ [])), (by exact absurd (by assumption) (by assumption : headF s ≠ []))⟩
              exact ⟨(.slice none 0 0), tup2 (hE.1) (congrArg (Value.int .i64) hE.2.1), (Row.nil _ _ _ _ _).cast hE.2.2, hb⟩
          · intro h127
            replace h127 : c96.toNat ≠ 64 := by omega
            refine L_as (L_nil (thenQ_normal (W_false (by kernel_rfl) (W_seq (W_region (L_run (.pointer (some ⟨b11, 1, none⟩)) (by kernel_rfl) (by kernel_rfl) (L_store b11 1 (.int .u8 1) [(.int .i64 no), (.int .u8 0), (S ([] : List UInt8)), (.slice none 0 0), (S ([] : List UInt8))] [(.int .i64 no), (.int .u8 1), (S ([] : List UInt8)), (.slice none 0 0), (S ([] : List UInt8))] 49 (by kernel_rfl) (by kernel_rfl) rfl (by kernel_rfl) o_x8 (by simp) rfl ?_)))))))
            intro w128 hW129
            replace hb := hb.trans (hW129.below g_x8)
            replace hs := Nat.le_trans hs (Nat.le_of_eq hW129.size.symm)
            have n_o_x4 := obj_wrote o_x4 hW129 ne_x4_x8
            replace o_x4 := n_o_x4; clear n_o_x4
            replace o_x8 := hW129.here
            refine L_nil (thenQ_normal (W_seq (W_region (L_mv (L_call 56 [(S (headF s))] (by kernel_rfl) (by kernel_rfl) (c_furrowref03_Fields (headF s) _ (by omega)) ?_)))))
            rintro q130 w131 ⟨_, rfl, r_q130, hB132⟩
            replace r_q130 := r_q130.base hs
            replace hb := hb.trans (hB132.mono hs)
            replace hs := Nat.le_trans hs (hB132.size)
            replace o_x4 := obj_below o_x4 hB132
            replace o_x8 := obj_below o_x8 hB132
            refine L_run (.pointer (some ⟨b11, 3, none⟩)) (by kernel_rfl) (by kernel_rfl) (L_store b11 3 q130 [(.int .i64 no), (.int .u8 1), (S ([] : List UInt8)), (.slice none 0 0), (S ([] : List UInt8))] [(.int .i64 no), (.int .u8 1), (S ([] : List UInt8)), q130, (S ([] : List UInt8))] 49 (by kernel_rfl) (by kernel_rfl) r_q130.one (by kernel_rfl) o_x8 (by simp) rfl ?_)
            intro w134 hW135
            replace hb := hb.trans (hW135.below g_x8)
            replace hs := Nat.le_trans hs (Nat.le_of_eq hW135.size.symm)
            have n_o_x4 := obj_wrote o_x4 hW135 ne_x4_x8
            have n_r_q130 := r_q130.wrote hW135 (r_q130.ne o_x8 (by simp))
            replace o_x4 := n_o_x4; clear n_o_x4
            replace r_q130 := n_r_q130; clear n_r_q130
            replace o_x8 := hW135.here
            refine L_nil (thenQ_normal (W_region (L_mv (L_run (.pointer (some ⟨b11, 4, none⟩)) (by kernel_rfl) (by kernel_rfl) (L_store b11 4 (S (noteF s)) [(.int .i64 no), (.int .u8 1), (S ([] : List UInt8)), q130, (S ([] : List UInt8))] [(.int .i64 no), (.int .u8 1), (S ([] : List UInt8)), q130, (S (noteF s))] 49 (by kernel_rfl) (by kernel_rfl) rfl (by kernel_rfl) o_x8 (by simp) rfl ?_)))))
            intro w136 hW137
            replace hb := hb.trans (hW137.below g_x8)
            replace hs := Nat.le_trans hs (Nat.le_of_eq hW137.size.symm)
            have n_o_x4 := obj_wrote o_x4 hW137 ne_x4_x8
            have n_r_q130 := r_q130.wrote hW137 (r_q130.ne o_x8 (by simp))
            replace o_x4 := n_o_x4; clear n_o_x4
            replace r_q130 := n_r_q130; clear n_r_q130
            replace o_x8 := hW137.here
            refine L_nil (blkQ_normal (thenQ_normal (W_seq (W_region (L_loadA b11 0 [(.int .i64 no), (.int .u8 1), (S ([] : List UInt8)), q130, (S (noteF s))] (by kernel_rfl) (by kernel_rfl) (by kernel_rfl) (cells_at o_x8 0 (by kernel_rfl)) (L_storeA b1 0 [(.int .i64 no), (.int .u8 1), (S ([] : List UInt8)), q130, (S (noteF s))] [(.int .i64 0), (.int .u8 0), (S ([] : List UInt8)), (.slice none 0 0), (S ([] : List UInt8))] [(.int .i64 no), (.int .u8 1), (S ([] : List UInt8)), q130, (S (noteF s))] 49 (by kernel_rfl) (by kernel_rfl) (allc rfl (allc rfl (allc rfl (allc r_q130.one (allc rfl rfl))))) (by kernel_rfl) o_x4 (by kernel_rfl) rfl ?_))))))
            intro w138 hW139
            replace hb := hb.trans (hW139.below g_x4)
            replace hs := Nat.le_trans hs (Nat.le_of_eq hW139.size.symm)
            have n_o_x8 := obj_wrote o_x8 hW139 ne_x8_x4
            have n_r_q130 := r_q130.wrote hW139 (r_q130.ne o_x4 (by simp))
            replace o_x8 := n_o_x8; clear n_o_x8
            replace r_q130 := n_r_q130; clear n_r_q130
            replace o_x4 := hW139.here
            refine L_as (L_nil (thenQ_normal (W_ret ?_)))
            refine end_ret [.cell 4 49, .tmp 5] [(Value.agg #[(.int .i64 no), (.int .u8 1), (S ([] : List UInt8)), q130, (S (noteF s))]), (.int .i64 0)] rfl rfl ⟨⟨⟨b1, 0, none⟩, by kernel_rfl, load_agg [(.int .i64 no), (.int .u8 1), (S ([] : List UInt8)), q130, (S (noteF s))] (by kernel_rfl) (by kernel_rfl) (cells_obj o_x4)⟩, by kernel_rfl, trivial⟩ ?_
            have hE : ((Value.agg #[(.int .i64 no), (.int .u8 1), (S ([] : List UInt8)), q130, (S (noteF s))]) = (Value.agg #[(.int .i64 ((scanF no s).1.1)), (.int .u8 ((scanF no s).1.2.1)), (S ((scanF no s).1.2.2.1)), q130, (S ((scanF no s).1.2.2.2.2))])) ∧ ((0 : Int) = (scanF no s).2) ∧ (fieldsF (headF s) = (scanF no s).1.2.2.2.1) := ⟨(by exact absurd (by assumption) (by assumption : headF s ≠ [])), (by exact absurd (by assumption) (by assumption : headF s ≠ [])), (by exact absurd (by assumption) (by assumption : headF s ≠ []))⟩
            exact ⟨q130, tup2 (hE.1) (congrArg (Value.int .i64) hE.2.1), r_q130.cast hE.2.2, hb⟩
    · intro h140
      refine L_mv (L_skip (by kernel_rfl) (L_skip (by kernel_rfl) (L_skip (by kernel_rfl) (L_pickF (by kernel_rfl) (L_mv (L_skip (by kernel_rfl) (L_skip (by kernel_rfl) (L_skip (by kernel_rfl) (L_pickF (by kernel_rfl) (L_as (L_nil (thenQ_normal (W_false (by kernel_rfl) (W_seq (W_region (L_mv (L_seq (headF s) ([] : List UInt8) rfl (by kernel_rfl) (by kernel_rfl) ?_ ?_)))))))))))))))))
      · intro h141
        refine L_as (L_nil (thenQ_normal (W_true (by kernel_rfl) (W_seq (W_region (L_run (.pointer (some ⟨b11, 1, none⟩)) (by kernel_rfl) (by kernel_rfl) (L_store b11 1 (.int .u8 0) [(.int .i64 no), (.int .u8 0), (S ([] : List UInt8)), (.slice none 0 0), (S ([] : List UInt8))] [(.int .i64 no), (.int .u8 0), (S ([] : List UInt8)), (.slice none 0 0), (S ([] : List UInt8))] 49 (by kernel_rfl) (by kernel_rfl) rfl (by kernel_rfl) o_x8 (by simp) rfl ?_)))))))
        intro w142 hW143
        replace hb := hb.trans (hW143.below g_x8)
        replace hs := Nat.le_trans hs (Nat.le_of_eq hW143.size.symm)
        have n_o_x4 := obj_wrote o_x4 hW143 ne_x4_x8
        replace o_x4 := n_o_x4; clear n_o_x4
        replace o_x8 := hW143.here
        refine L_nil (thenQ_normal (W_region (L_mv (L_run (.pointer (some ⟨b11, 4, none⟩)) (by kernel_rfl) (by kernel_rfl) (L_store b11 4 (S (noteF s)) [(.int .i64 no), (.int .u8 0), (S ([] : List UInt8)), (.slice none 0 0), (S ([] : List UInt8))] [(.int .i64 no), (.int .u8 0), (S ([] : List UInt8)), (.slice none 0 0), (S (noteF s))] 49 (by kernel_rfl) (by kernel_rfl) rfl (by kernel_rfl) o_x8 (by simp) rfl ?_)))))
        intro w144 hW145
        replace hb := hb.trans (hW145.below g_x8)
        replace hs := Nat.le_trans hs (Nat.le_of_eq hW145.size.symm)
        have n_o_x4 := obj_wrote o_x4 hW145 ne_x4_x8
        replace o_x4 := n_o_x4; clear n_o_x4
        replace o_x8 := hW145.here
        refine L_nil (blkQ_normal (thenQ_normal (W_seq (W_region (L_loadA b11 0 [(.int .i64 no), (.int .u8 0), (S ([] : List UInt8)), (.slice none 0 0), (S (noteF s))] (by kernel_rfl) (by kernel_rfl) (by kernel_rfl) (cells_at o_x8 0 (by kernel_rfl)) (L_storeA b1 0 [(.int .i64 no), (.int .u8 0), (S ([] : List UInt8)), (.slice none 0 0), (S (noteF s))] [(.int .i64 0), (.int .u8 0), (S ([] : List UInt8)), (.slice none 0 0), (S ([] : List UInt8))] [(.int .i64 no), (.int .u8 0), (S ([] : List UInt8)), (.slice none 0 0), (S (noteF s))] 49 (by kernel_rfl) (by kernel_rfl) rfl (by kernel_rfl) o_x4 (by kernel_rfl) rfl ?_))))))
        intro w146 hW147
        replace hb := hb.trans (hW147.below g_x4)
        replace hs := Nat.le_trans hs (Nat.le_of_eq hW147.size.symm)
        have n_o_x8 := obj_wrote o_x8 hW147 ne_x8_x4
        replace o_x8 := n_o_x8; clear n_o_x8
        replace o_x4 := hW147.here
        refine L_as (L_nil (thenQ_normal (W_ret ?_)))
        refine end_ret [.cell 4 49, .tmp 5] [(Value.agg #[(.int .i64 no), (.int .u8 0), (S ([] : List UInt8)), (.slice none 0 0), (S (noteF s))]), (.int .i64 0)] rfl rfl ⟨⟨⟨b1, 0, none⟩, by kernel_rfl, load_agg [(.int .i64 no), (.int .u8 0), (S ([] : List UInt8)), (.slice none 0 0), (S (noteF s))] (by kernel_rfl) (by kernel_rfl) (cells_obj o_x4)⟩, by kernel_rfl, trivial⟩ ?_
        have hE : ((Value.agg #[(.int .i64 no), (.int .u8 0), (S ([] : List UInt8)), (.slice none 0 0), (S (noteF s))]) = (Value.agg #[(.int .i64 ((scanF no s).1.1)), (.int .u8 ((scanF no s).1.2.1)), (S ((scanF no s).1.2.2.1)), (.slice none 0 0), (S ((scanF no s).1.2.2.2.2))])) ∧ ((0 : Int) = (scanF no s).2) ∧ (([] : List (List UInt8)) = (scanF no s).1.2.2.2.1) := ⟨(by exact absurd (by assumption) (by assumption : headF s ≠ [])), (by exact absurd (by assumption) (by assumption : headF s ≠ [])), (by exact absurd (by assumption) (by assumption : headF s ≠ []))⟩
        exact ⟨(.slice none 0 0), tup2 (hE.1) (congrArg (Value.int .i64) hE.2.1), (Row.nil _ _ _ _ _).cast hE.2.2, hb⟩
      · intro h148
        refine L_as (L_nil (thenQ_normal (W_false (by kernel_rfl) (W_seq (W_region (L_mv ?_))))))
        have hz := get_some (headF s) 0 (by exact List.length_pos_iff.2 (by assumption)); obtain ⟨c149, hc150⟩ := hz
        have := c149.toNat_lt
        refine L_sindex (k := .i64) (headF s) 0 c149 Tryz.underlying9 hc150 (by kernel_rfl) (by kernel_rfl) (L_cmp .u8 ((c149.toNat : Nat) : Int) ((64 : Nat) : Int) (c149.toNat = 64) rfl (cmpN_eq c149.toNat 64) (by kernel_rfl) (by kernel_rfl) ?_ ?_)
        · intro h151
          replace h151 : c149.toNat = 64 := by omega
          refine L_as (L_nil (thenQ_normal (W_true (by kernel_rfl) (W_seq (W_region (L_mv (L_ssfrom (headF s) 1 Tryz.underlying9 (by kernel_rfl) ⟨.i64, by kernel_rfl⟩ (by exact List.length_pos_iff.2 (by assumption)) (L_call 54 [(S (List.drop 1 (headF s))), (.int .u8 58)] (by kernel_rfl) (by kernel_rfl) (c_furrowref03_until (List.drop 1 (headF s)) 58 _ (by (simp only [List.length_drop, List.length_take]; omega))) ?_))))))))
          rintro _ w152 ⟨rfl, hB153⟩
          replace hb := hb.trans (hB153.mono hs)
          replace hs := Nat.le_trans hs (hB153.size)
          replace o_x4 := obj_below o_x4 hB153
          replace o_x8 := obj_below o_x8 hB153
          have := unt_len 58 (List.drop 1 (headF s))
          refine L_mv (L_run (S ((untF 58 (List.drop 1 (headF s))).1)) (by kernel_rfl) (by kernel_rfl) (L_run (S ((untF 58 (List.drop 1 (headF s))).2.1)) (by kernel_rfl) (by kernel_rfl) (L_run (.bool ((untF 58 (List.drop 1 (headF s))).2.2)) (by kernel_rfl) (by kernel_rfl) (put_split ((untF 58 (List.drop 1 (headF s))).2.2) ?_ ?_))))
          · intro h155
            refine L_as (L_as (L_as (L_nil (thenQ_normal (W_seq (W_seq (W_region (L_mv (L_not true (by kernel_rfl) (L_mv (L_want (by kernel_rfl) (L_mv (L_want (by kernel_rfl) (L_call 55 [(S ((untF 58 (List.drop 1 (headF s))).1))] (by kernel_rfl) (by kernel_rfl) (c_furrowref03_named ((untF 58 (List.drop 1 (headF s))).1) _ (by (simp only [List.length_drop] at *; omega))) ?_))))))))))))))
            rintro _ w156 ⟨rfl, hB157⟩
            replace hb := hb.trans (hB157.mono hs)
            replace hs := Nat.le_trans hs (hB157.size)
            replace o_x4 := obj_below o_x4 hB157
            replace o_x8 := obj_below o_x8 hB157
            refine put_split (nameF ((untF 58 (List.drop 1 (headF s))).1)) ?_ ?_
            · intro h159
              refine L_want (by kernel_rfl) (L_not true (by kernel_rfl) (L_pickF (by kernel_rfl) (L_nil (thenQ_normal (W_false (by kernel_rfl) (W_skip (thenQ_normal (W_seq (W_region (L_run (.pointer (some ⟨b11, 1, none⟩)) (by kernel_rfl) (by kernel_rfl) (L_store b11 1 (.int .u8 2) [(.int .i64 no), (.int .u8 0), (S ([] : List UInt8)), (.slice none 0 0), (S ([] : List UInt8))] [(.int .i64 no), (.int .u8 2), (S ([] : List UInt8)), (.slice none 0 0), (S ([] : List UInt8))] 49 (by kernel_rfl) (by kernel_rfl) rfl (by kernel_rfl) o_x8 (by simp) rfl ?_)))))))))))
              intro w160 hW161
              replace hb := hb.trans (hW161.below g_x8)
              replace hs := Nat.le_trans hs (Nat.le_of_eq hW161.size.symm)
              have n_o_x4 := obj_wrote o_x4 hW161 ne_x4_x8
              replace o_x4 := n_o_x4; clear n_o_x4
              replace o_x8 := hW161.here
              refine L_nil (thenQ_normal (W_seq (W_region (L_mv (L_run (.pointer (some ⟨b11, 2, none⟩)) (by kernel_rfl) (by kernel_rfl) (L_store b11 2 (S ((untF 58 (List.drop 1 (headF s))).1)) [(.int .i64 no), (.int .u8 2), (S ([] : List UInt8)), (.slice none 0 0), (S ([] : List UInt8))] [(.int .i64 no), (.int .u8 2), (S ((untF 58 (List.drop 1 (headF s))).1)), (.slice none 0 0), (S ([] : List UInt8))] 49 (by kernel_rfl) (by kernel_rfl) rfl (by kernel_rfl) o_x8 (by simp) rfl ?_))))))
              intro w162 hW163
              replace hb := hb.trans (hW163.below g_x8)
              replace hs := Nat.le_trans hs (Nat.le_of_eq hW163.size.symm)
              have n_o_x4 := obj_wrote o_x4 hW163 ne_x4_x8
              replace o_x4 := n_o_x4; clear n_o_x4
              replace o_x8 := hW163.here
              refine L_nil (thenQ_normal (W_seq (W_region (L_mv (L_call 56 [(S ((untF 58 (List.drop 1 (headF s))).2.1))] (by kernel_rfl) (by kernel_rfl) (c_furrowref03_Fields ((untF 58 (List.drop 1 (headF s))).2.1) _ (by (simp only [List.length_drop] at *; omega))) ?_)))))
              rintro q164 w165 ⟨_, rfl, r_q164, hB166⟩
              replace r_q164 := r_q164.base hs
              replace hb := hb.trans (hB166.mono hs)
              replace hs := Nat.le_trans hs (hB166.size)
              replace o_x4 := obj_below o_x4 hB166
              replace o_x8 := obj_below o_x8 hB166
              refine L_run (.pointer (some ⟨b11, 3, none⟩)) (by kernel_rfl) (by kernel_rfl) (L_store b11 3 q164 [(.int .i64 no), (.int .u8 2), (S ((untF 58 (List.drop 1 (headF s))).1)), (.slice none 0 0), (S ([] : List UInt8))] [(.int .i64 no), (.int .u8 2), (S ((untF 58 (List.drop 1 (headF s))).1)), q164, (S ([] : List UInt8))] 49 (by kernel_rfl) (by kernel_rfl) r_q164.one (by kernel_rfl) o_x8 (by simp) rfl ?_)
              intro w168 hW169
              replace hb := hb.trans (hW169.below g_x8)
              replace hs := Nat.le_trans hs (Nat.le_of_eq hW169.size.symm)
              have n_o_x4 := obj_wrote o_x4 hW169 ne_x4_x8
              have n_r_q164 := r_q164.wrote hW169 (r_q164.ne o_x8 (by simp))
              replace o_x4 := n_o_x4; clear n_o_x4
              replace r_q164 := n_r_q164; clear n_r_q164
              replace o_x8 := hW169.here
              refine L_nil (thenQ_normal (W_region (L_mv (L_run (.pointer (some ⟨b11, 4, none⟩)) (by kernel_rfl) (by kernel_rfl) (L_store b11 4 (S (noteF s)) [(.int .i64 no), (.int .u8 2), (S ((untF 58 (List.drop 1 (headF s))).1)), q164, (S ([] : List UInt8))] [(.int .i64 no), (.int .u8 2), (S ((untF 58 (List.drop 1 (headF s))).1)), q164, (S (noteF s))] 49 (by kernel_rfl) (by kernel_rfl) rfl (by kernel_rfl) o_x8 (by simp) rfl ?_)))))
              intro w170 hW171
              replace hb := hb.trans (hW171.below g_x8)
              replace hs := Nat.le_trans hs (Nat.le_of_eq hW171.size.symm)
              have n_o_x4 := obj_wrote o_x4 hW171 ne_x4_x8
              have n_r_q164 := r_q164.wrote hW171 (r_q164.ne o_x8 (by simp))
              replace o_x4 := n_o_x4; clear n_o_x4
              replace r_q164 := n_r_q164; clear n_r_q164
              replace o_x8 := hW171.here
              refine L_nil (blkQ_normal (thenQ_normal (W_seq (W_region (L_loadA b11 0 [(.int .i64 no), (.int .u8 2), (S ((untF 58 (List.drop 1 (headF s))).1)), q164, (S (noteF s))] (by kernel_rfl) (by kernel_rfl) (by kernel_rfl) (cells_at o_x8 0 (by kernel_rfl)) (L_storeA b1 0 [(.int .i64 no), (.int .u8 2), (S ((untF 58 (List.drop 1 (headF s))).1)), q164, (S (noteF s))] [(.int .i64 0), (.int .u8 0), (S ([] : List UInt8)), (.slice none 0 0), (S ([] : List UInt8))] [(.int .i64 no), (.int .u8 2), (S ((untF 58 (List.drop 1 (headF s))).1)), q164, (S (noteF s))] 49 (by kernel_rfl) (by kernel_rfl) (allc rfl (allc rfl (allc rfl (allc r_q164.one (allc rfl rfl))))) (by kernel_rfl) o_x4 (by kernel_rfl) rfl ?_))))))
              intro w172 hW173
              replace hb := hb.trans (hW173.below g_x4)
              replace hs := Nat.le_trans hs (Nat.le_of_eq hW173.size.symm)
              have n_o_x8 := obj_wrote o_x8 hW173 ne_x8_x4
              have n_r_q164 := r_q164.wrote hW173 (r_q164.ne o_x4 (by simp))
              replace o_x8 := n_o_x8; clear n_o_x8
              replace r_q164 := n_r_q164; clear n_r_q164
              replace o_x4 := hW173.here
              refine L_as (L_nil (thenQ_normal (W_ret ?_)))
              refine end_ret [.cell 4 49, .tmp 5] [(Value.agg #[(.int .i64 no), (.int .u8 2), (S ((untF 58 (List.drop 1 (headF s))).1)), q164, (S (noteF s))]), (.int .i64 0)] rfl rfl ⟨⟨⟨b1, 0, none⟩, by kernel_rfl, load_agg [(.int .i64 no), (.int .u8 2), (S ((untF 58 (List.drop 1 (headF s))).1)), q164, (S (noteF s))] (by kernel_rfl) (by kernel_rfl) (cells_obj o_x4)⟩, by kernel_rfl, trivial⟩ ?_
              have hE : ((Value.agg #[(.int .i64 no), (.int .u8 2), (S ((untF 58 (List.drop 1 (headF s))).1)), q164, (S (noteF s))]) = (Value.agg #[(.int .i64 ((scanF no s).1.1)), (.int .u8 ((scanF no s).1.2.1)), (S ((scanF no s).1.2.2.1)), q164, (S ((scanF no s).1.2.2.2.2))])) ∧ ((0 : Int) = (scanF no s).2) ∧ (fieldsF ((untF 58 (List.drop 1 (headF s))).2.1) = (scanF no s).1.2.2.2.1) := ⟨(by (rw [scanR_order (by assumption) (hp_one (by assumption) (by assumption)) (by assumption) (by assumption)]; try rfl; done)), (by (rw [scanR_order (by assumption) (hp_one (by assumption) (by assumption)) (by assumption) (by assumption)]; try rfl; done)), (by (rw [scanR_order (by assumption) (hp_one (by assumption) (by assumption)) (by assumption) (by assumption)]; try rfl; done))⟩
              exact ⟨q164, tup2 (hE.1) (congrArg (Value.int .i64) hE.2.1), r_q164.cast hE.2.2, hb⟩
            · intro h174
              refine L_want (by kernel_rfl) (L_not false (by kernel_rfl) (L_pickF (by kernel_rfl) (L_nil (thenQ_normal (W_true (by kernel_rfl) (W_seq (W_region (L_run (Value.agg #[(.int .i64 0), (.int .u8 0), (S ([] : List UInt8)), (.slice none 0 0), (S ([] : List UInt8))]) (by kernel_rfl) (by kernel_rfl) (L_storeA b1 0 [(.int .i64 0), (.int .u8 0), (S ([] : List UInt8)), (.slice none 0 0), (S ([] : List UInt8))] [(.int .i64 0), (.int .u8 0), (S ([] : List UInt8)), (.slice none 0 0), (S ([] : List UInt8))] [(.int .i64 0), (.int .u8 0), (S ([] : List UInt8)), (.slice none 0 0), (S ([] : List UInt8))] 49 (by kernel_rfl) (by kernel_rfl) rfl (by kernel_rfl) o_x4 (by kernel_rfl) rfl ?_)))))))))
              intro w175 hW176
              replace hb := hb.trans (hW176.below g_x4)
              replace hs := Nat.le_trans hs (Nat.le_of_eq hW176.size.symm)
              have n_o_x8 := obj_wrote o_x8 hW176 ne_x8_x4
              replace o_x8 := n_o_x8; clear n_o_x8
              replace o_x4 := hW176.here
              refine L_as (L_nil (thenQ_normal (W_ret (thenQ_ret (blkQ_ret (thenQ_ret ?_))))))
              refine end_ret [.cell 4 49, .tmp 5] [(Value.agg #[(.int .i64 0), (.int .u8 0), (S ([] : List UInt8)), (.slice none 0 0), (S ([] : List UInt8))]), (.int .i64 33)] rfl rfl ⟨⟨⟨b1, 0, none⟩, by kernel_rfl, load_agg [(.int .i64 0), (.int .u8 0), (S ([] : List UInt8)), (.slice none 0 0), (S ([] : List UInt8))] (by kernel_rfl) (by kernel_rfl) (cells_obj o_x4)⟩, by kernel_rfl, trivial⟩ ?_
              have hE : ((Value.agg #[(.int .i64 0), (.int .u8 0), (S ([] : List UInt8)), (.slice none 0 0), (S ([] : List UInt8))]) = (Value.agg #[(.int .i64 ((scanF no s).1.1)), (.int .u8 ((scanF no s).1.2.1)), (S ((scanF no s).1.2.2.1)), (.slice none 0 0), (S ((scanF no s).1.2.2.2.2))])) ∧ ((33 : Int) = (scanF no s).2) ∧ (([] : List (List UInt8)) = (scanF no s).1.2.2.2.1) := ⟨(by (rw [scanR_unnamed (by assumption) (hp_one (by assumption) (by assumption)) (.inr (by assumption))]; try rfl; done)), (by (rw [scanR_unnamed (by assumption) (hp_one (by assumption) (by assumption)) (.inr (by assumption))]; try rfl; done)), (by (rw [scanR_unnamed (by assumption) (hp_one (by assumption) (by assumption)) (.inr (by assumption))]; try rfl; done))⟩
              exact ⟨(.slice none 0 0), tup2 (hE.1) (congrArg (Value.int .i64) hE.2.1), (Row.nil _ _ _ _ _).cast hE.2.2, hb⟩
          · intro h177
            refine L_as (L_as (L_as (L_nil (thenQ_normal (W_seq (W_seq (W_region (L_mv (L_not false (by kernel_rfl) (L_mv (L_skip (by kernel_rfl) (L_skip (by kernel_rfl) (L_skip (by kernel_rfl) (L_pickT (by kernel_rfl) (L_nil (thenQ_normal (W_true (by kernel_rfl) (W_seq (W_region (L_run (Value.agg #[(.int .i64 0), (.int .u8 0), (S ([] : List UInt8)), (.slice none 0 0), (S ([] : List UInt8))]) (by kernel_rfl) (by kernel_rfl) (L_storeA b1 0 [(.int .i64 0), (.int .u8 0), (S ([] : List UInt8)), (.slice none 0 0), (S ([] : List UInt8))] [(.int .i64 0), (.int .u8 0), (S ([] : List UInt8)), (.slice none 0 0), (S ([] : List UInt8))] [(.int .i64 0), (.int .u8 0), (S ([] : List UInt8)), (.slice none 0 0), (S ([] : List UInt8))] 49 (by kernel_rfl) (by kernel_rfl) rfl (by kernel_rfl) o_x4 (by kernel_rfl) rfl ?_)))))))))))))))))))))
            intro w178 hW179
            replace hb := hb.trans (hW179.below g_x4)
            replace hs := Nat.le_trans hs (Nat.le_of_eq hW179.size.symm)
            have n_o_x8 := obj_wrote o_x8 hW179 ne_x8_x4
            replace o_x8 := n_o_x8; clear n_o_x8
            replace o_x4 := hW179.here
            refine L_as (L_nil (thenQ_normal (W_ret (thenQ_ret (blkQ_ret (thenQ_ret ?_))))))
            refine end_ret [.cell 4 49, .tmp 5] [(Value.agg #[(.int .i64 0), (.int .u8 0), (S ([] : List UInt8)), (.slice none 0 0), (S ([] : List UInt8))]), (.int .i64 33)] rfl rfl ⟨⟨⟨b1, 0, none⟩, by kernel_rfl, load_agg [(.int .i64 0), (.int .u8 0), (S ([] : List UInt8)), (.slice none 0 0), (S ([] : List UInt8))] (by kernel_rfl) (by kernel_rfl) (cells_obj o_x4)⟩, by kernel_rfl, trivial⟩ ?_
            have hE : ((Value.agg #[(.int .i64 0), (.int .u8 0), (S ([] : List UInt8)), (.slice none 0 0), (S ([] : List UInt8))]) = (Value.agg #[(.int .i64 ((scanF no s).1.1)), (.int .u8 ((scanF no s).1.2.1)), (S ((scanF no s).1.2.2.1)), (.slice none 0 0), (S ((scanF no s).1.2.2.2.2))])) ∧ ((33 : Int) = (scanF no s).2) ∧ (([] : List (List UInt8)) = (scanF no s).1.2.2.2.1) := ⟨(by (rw [scanR_unnamed (by assumption) (hp_one (by assumption) (by assumption)) (.inl (by assumption))]; try rfl; done)), (by (rw [scanR_unnamed (by assumption) (hp_one (by assumption) (by assumption)) (.inl (by assumption))]; try rfl; done)), (by (rw [scanR_unnamed (by assumption) (hp_one (by assumption) (by assumption)) (.inl (by assumption))]; try rfl; done))⟩
            exact ⟨(.slice none 0 0), tup2 (hE.1) (congrArg (Value.int .i64) hE.2.1), (Row.nil _ _ _ _ _).cast hE.2.2, hb⟩
        · intro h180
          replace h180 : c149.toNat ≠ 64 := by omega
          refine L_as (L_nil (thenQ_normal (W_false (by kernel_rfl) (W_seq (W_region (L_run (.pointer (some ⟨b11, 1, none⟩)) (by kernel_rfl) (by kernel_rfl) (L_store b11 1 (.int .u8 1) [(.int .i64 no), (.int .u8 0), (S ([] : List UInt8)), (.slice none 0 0), (S ([] : List UInt8))] [(.int .i64 no), (.int .u8 1), (S ([] : List UInt8)), (.slice none 0 0), (S ([] : List UInt8))] 49 (by kernel_rfl) (by kernel_rfl) rfl (by kernel_rfl) o_x8 (by simp) rfl ?_)))))))
          intro w181 hW182
          replace hb := hb.trans (hW182.below g_x8)
          replace hs := Nat.le_trans hs (Nat.le_of_eq hW182.size.symm)
          have n_o_x4 := obj_wrote o_x4 hW182 ne_x4_x8
          replace o_x4 := n_o_x4; clear n_o_x4
          replace o_x8 := hW182.here
          refine L_nil (thenQ_normal (W_seq (W_region (L_mv (L_call 56 [(S (headF s))] (by kernel_rfl) (by kernel_rfl) (c_furrowref03_Fields (headF s) _ (by omega)) ?_)))))
          rintro q183 w184 ⟨_, rfl, r_q183, hB185⟩
          replace r_q183 := r_q183.base hs
          replace hb := hb.trans (hB185.mono hs)
          replace hs := Nat.le_trans hs (hB185.size)
          replace o_x4 := obj_below o_x4 hB185
          replace o_x8 := obj_below o_x8 hB185
          refine L_run (.pointer (some ⟨b11, 3, none⟩)) (by kernel_rfl) (by kernel_rfl) (L_store b11 3 q183 [(.int .i64 no), (.int .u8 1), (S ([] : List UInt8)), (.slice none 0 0), (S ([] : List UInt8))] [(.int .i64 no), (.int .u8 1), (S ([] : List UInt8)), q183, (S ([] : List UInt8))] 49 (by kernel_rfl) (by kernel_rfl) r_q183.one (by kernel_rfl) o_x8 (by simp) rfl ?_)
          intro w187 hW188
          replace hb := hb.trans (hW188.below g_x8)
          replace hs := Nat.le_trans hs (Nat.le_of_eq hW188.size.symm)
          have n_o_x4 := obj_wrote o_x4 hW188 ne_x4_x8
          have n_r_q183 := r_q183.wrote hW188 (r_q183.ne o_x8 (by simp))
          replace o_x4 := n_o_x4; clear n_o_x4
          replace r_q183 := n_r_q183; clear n_r_q183
          replace o_x8 := hW188.here
          refine L_nil (thenQ_normal (W_region (L_mv (L_run (.pointer (some ⟨b11, 4, none⟩)) (by kernel_rfl) (by kernel_rfl) (L_store b11 4 (S (noteF s)) [(.int .i64 no), (.int .u8 1), (S ([] : List UInt8)), q183, (S ([] : List UInt8))] [(.int .i64 no), (.int .u8 1), (S ([] : List UInt8)), q183, (S (noteF s))] 49 (by kernel_rfl) (by kernel_rfl) rfl (by kernel_rfl) o_x8 (by simp) rfl ?_)))))
          intro w189 hW190
          replace hb := hb.trans (hW190.below g_x8)
          replace hs := Nat.le_trans hs (Nat.le_of_eq hW190.size.symm)
          have n_o_x4 := obj_wrote o_x4 hW190 ne_x4_x8
          have n_r_q183 := r_q183.wrote hW190 (r_q183.ne o_x8 (by simp))
          replace o_x4 := n_o_x4; clear n_o_x4
          replace r_q183 := n_r_q183; clear n_r_q183
          replace o_x8 := hW190.here
          refine L_nil (blkQ_normal (thenQ_normal (W_seq (W_region (L_loadA b11 0 [(.int .i64 no), (.int .u8 1), (S ([] : List UInt8)), q183, (S (noteF s))] (by kernel_rfl) (by kernel_rfl) (by kernel_rfl) (cells_at o_x8 0 (by kernel_rfl)) (L_storeA b1 0 [(.int .i64 no), (.int .u8 1), (S ([] : List UInt8)), q183, (S (noteF s))] [(.int .i64 0), (.int .u8 0), (S ([] : List UInt8)), (.slice none 0 0), (S ([] : List UInt8))] [(.int .i64 no), (.int .u8 1), (S ([] : List UInt8)), q183, (S (noteF s))] 49 (by kernel_rfl) (by kernel_rfl) (allc rfl (allc rfl (allc rfl (allc r_q183.one (allc rfl rfl))))) (by kernel_rfl) o_x4 (by kernel_rfl) rfl ?_))))))
          intro w191 hW192
          replace hb := hb.trans (hW192.below g_x4)
          replace hs := Nat.le_trans hs (Nat.le_of_eq hW192.size.symm)
          have n_o_x8 := obj_wrote o_x8 hW192 ne_x8_x4
          have n_r_q183 := r_q183.wrote hW192 (r_q183.ne o_x4 (by simp))
          replace o_x8 := n_o_x8; clear n_o_x8
          replace r_q183 := n_r_q183; clear n_r_q183
          replace o_x4 := hW192.here
          refine L_as (L_nil (thenQ_normal (W_ret ?_)))
          refine end_ret [.cell 4 49, .tmp 5] [(Value.agg #[(.int .i64 no), (.int .u8 1), (S ([] : List UInt8)), q183, (S (noteF s))]), (.int .i64 0)] rfl rfl ⟨⟨⟨b1, 0, none⟩, by kernel_rfl, load_agg [(.int .i64 no), (.int .u8 1), (S ([] : List UInt8)), q183, (S (noteF s))] (by kernel_rfl) (by kernel_rfl) (cells_obj o_x4)⟩, by kernel_rfl, trivial⟩ ?_
          have hE : ((Value.agg #[(.int .i64 no), (.int .u8 1), (S ([] : List UInt8)), q183, (S (noteF s))]) = (Value.agg #[(.int .i64 ((scanF no s).1.1)), (.int .u8 ((scanF no s).1.2.1)), (S ((scanF no s).1.2.2.1)), q183, (S ((scanF no s).1.2.2.2.2))])) ∧ ((0 : Int) = (scanF no s).2) ∧ (fieldsF (headF s) = (scanF no s).1.2.2.2.1) := ⟨(by (rw [scanR_data (by assumption) (by assumption) (hp_one_not (by assumption) (by assumption))]; try rfl; done)), (by (rw [scanR_data (by assumption) (by assumption) (hp_one_not (by assumption) (by assumption))]; try rfl; done)), (by (rw [scanR_data (by assumption) (by assumption) (hp_one_not (by assumption) (by assumption))]; try rfl; done))⟩
          exact ⟨q183, tup2 (hE.1) (congrArg (Value.int .i64) hE.2.1), r_q183.cast hE.2.2, hb⟩

end Go.Proofs.YtjdcmeoiommglaaGreatDoor
