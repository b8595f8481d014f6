/- Walks, written by my program walk.py out of the specification wgo.py: each theorem says what one function returns and that it leaves memory as it was. -/
import Derived.Test.YtbknjmjflfkhkaaPGo
import Derived.Test.YtbknjmjflfkhkaaWwords
import Derived.Test.YtbknjmjflfkhkaaFKh
import Derived.Test.YtbknjmjflfkhkaaProg
namespace Go.Proofs.Ytbknjmjflfkhkaa
open Go Go.RowKit Go.FK
set_option linter.unusedVariables false

set_option maxHeartbeats 4000000 in
set_option maxRecDepth 100000 in
theorem c_furrowlaw05_loose (s : List UInt8) (w : World) (hs : s.length ≤ 1073741824) :
    Calls Try.prog 25 #[(S s)] w (Ret fun v w' => v = (S (looseS s)) ∧ Below w.heap.size w w') := by
  refine enter (args := [(S s)]) Try.func25 rfl (by kernel_rfl : _ = 35) (by kernel_rfl) ?_
  have hb := Below.refl w.heap.size w
  have hs : w.heap.size ≤ w.heap.size := Nat.le_refl _
  refine W_seq (W_region (L_as (L_nil (thenQ_normal (W_seq (W_region (L_as (L_nil (thenQ_normal (W_seq (W_seq (W_region (L_mv (L_range s Try.underlying9 (by kernel_rfl) ?_))))))))))))))
  intro b1 w2 hN3
  have g_it7 : w.heap.size ≤ b1 := by rw [hN3.num]; exact hs
  replace hb := hb.trans (hN3.below.mono hs)
  replace hs := Nat.le_trans hs (hN3.below.size)
  have o_it7 := hN3.here
  refine L_nil (thenQ_normal (W_block ?_))
  refine W_loop (fun m s0 w0 => ∃ (pos : Nat) (acc : List Int) (v_3 : Value), (m = s.length - pos) ∧ (s0.ds = []) ∧ (s0.f 2 = (S ([] : List UInt8))) ∧ (s0.f 7 = (.pointer (some ⟨b1, 0, none⟩))) ∧ (s0.f 3 = v_3) ∧ (Row w0 w.heap.size 21 1 encI32 v_3 acc) ∧ (w0.heap[b1]? = some (.stringIter ⟨(s).toArray⟩ pos)) ∧ (Below w.heap.size w w0) ∧ (w.heap.size ≤ w0.heap.size) ∧ (pos ≤ s.length) ∧ (acc.length ≤ pos) ∧ (acc ++ looseL (runesFrom s pos) = looseL (runesFrom s 0))) _ ⟨0, [], (.slice none 0 0), rfl, by kernel_rfl, by kernel_rfl, by kernel_rfl, by kernel_rfl, Row.nil _ _ _ _ _, o_it7, hb, hs, by omega, by simp, by simp⟩ ?_
  rintro m4 s5 w6 ⟨pos, acc, v_3, hm, hds, f_2, f_7, f_3, r_3, o_it7, hb, hs, i1, i2, i3⟩
  refine W_set 2 _ f_2 (W_set 7 _ f_7 (W_set 3 _ f_3 ?_))
  clear f_2 f_7 f_3
  refine W_seq (W_region ?_)
  rcases Nat.lt_or_ge pos (s).length with lt_it7 | ge_it7
  · refine L_next s b1 pos (by kernel_rfl) o_it7 lt_it7 ?_
    intro c_it7 w7 ch_it7 hW8
    replace hb := hb.trans (hW8.below g_it7)
    replace hs := Nat.le_trans hs (Nat.le_of_eq hW8.size.symm)
    have n_r_3 := r_3.wrote hW8 (r_3.ne o_it7 (by simp))
    replace r_3 := n_r_3; clear n_r_3
    replace o_it7 := hW8.here
    have := dec_pos s pos; have := dec_fits s pos lt_it7; have := dec_le s pos
    have c_it7_0 : 0 ≤ c_it7 := by omega
    have c_it7_1 : c_it7 ≤ 2147483647 := by omega
    refine L_run (.bool true) (by kernel_rfl) (by kernel_rfl) (L_nil (thenQ_normal (W_seq (W_true (by kernel_rfl) (W_skip (thenQ_normal (W_block (W_seq (W_region (L_run (.int .i32 c_it7) (by kernel_rfl) (by kernel_rfl) (L_as (L_nil (thenQ_normal (W_seq (W_seq (W_region (L_mv (L_call 13 [(.int .i32 c_it7)] (by kernel_rfl) (by kernel_rfl) (c_words_Blank c_it7 _ ) ?_))))))))))))))))))
    rintro _ w9 ⟨rfl, hB10⟩
    replace hb := hb.trans (hB10.mono hs)
    replace hs := Nat.le_trans hs (hB10.size)
    replace o_it7 := obj_below o_it7 hB10
    replace r_3 := r_3.below hB10
    refine put_split (blankB c_it7) ?_ ?_
    · intro h12
      refine L_mv (L_skip (by kernel_rfl) (L_skip (by kernel_rfl) (L_pickT (by kernel_rfl) (L_mv (L_skip (by kernel_rfl) (L_skip (by kernel_rfl) (L_pickT (by kernel_rfl) (L_nil (thenQ_normal (W_true (by kernel_rfl) (W_exit (thenQ_exit (blkQ_exit ?_)))))))))))))
      refine thenQ_normal ⟨_, ?_, (pos + (dec s pos).2), acc, v_3, rfl, hds, by kernel_rfl, by kernel_rfl, by kernel_rfl, r_3, o_it7, hb, hs, ?_, ?_, ?_⟩
      · omega
      · omega
      · (try simp only [List.length_append, List.length_cons, List.length_nil]); omega
      · rw [← i3, runesFrom_step lt_it7, ← ch_it7, looseL_cons]; clear ch_it7; simp [dropB, *]; try (unfold lowerI; split <;> omega)
    · intro h13
      refine L_mv (L_want (by kernel_rfl) (L_mv (L_want (by kernel_rfl) (L_cmp .i32 c_it7 95 (c_it7 = 95) rfl (cmp_eq c_it7 95) (by kernel_rfl) (by kernel_rfl) ?_ ?_))))
      · intro h14
        replace h14 : c_it7 = 95 := by omega
        refine L_pickF (by kernel_rfl) (L_mv (L_skip (by kernel_rfl) (L_skip (by kernel_rfl) (L_pickT (by kernel_rfl) (L_nil (thenQ_normal (W_true (by kernel_rfl) (W_exit (thenQ_exit (blkQ_exit ?_))))))))))
        refine thenQ_normal ⟨_, ?_, (pos + (dec s pos).2), acc, v_3, rfl, hds, by kernel_rfl, by kernel_rfl, by kernel_rfl, r_3, o_it7, hb, hs, ?_, ?_, ?_⟩
        · omega
        · omega
        · (try simp only [List.length_append, List.length_cons, List.length_nil]); omega
        · rw [← i3, runesFrom_step lt_it7, ← ch_it7, looseL_cons]; clear ch_it7; simp [dropB, *]; try (unfold lowerI; split <;> omega)
      · intro h15
        replace h15 : c_it7 ≠ 95 := by omega
        refine L_pickF (by kernel_rfl) (L_mv (L_want (by kernel_rfl) (L_mv (L_want (by kernel_rfl) (L_cmp .i32 c_it7 45 (c_it7 = 45) rfl (cmp_eq c_it7 45) (by kernel_rfl) (by kernel_rfl) ?_ ?_)))))
        · intro h16
          replace h16 : c_it7 = 45 := by omega
          refine L_pickF (by kernel_rfl) (L_nil (thenQ_normal (W_true (by kernel_rfl) (W_exit (thenQ_exit (blkQ_exit ?_))))))
          refine thenQ_normal ⟨_, ?_, (pos + (dec s pos).2), acc, v_3, rfl, hds, by kernel_rfl, by kernel_rfl, by kernel_rfl, r_3, o_it7, hb, hs, ?_, ?_, ?_⟩
          · omega
          · omega
          · (try simp only [List.length_append, List.length_cons, List.length_nil]); omega
          · rw [← i3, runesFrom_step lt_it7, ← ch_it7, looseL_cons]; clear ch_it7; simp [dropB, *]; try (unfold lowerI; split <;> omega)
        · intro h17
          replace h17 : c_it7 ≠ 45 := by omega
          refine L_pickF (by kernel_rfl) (L_nil (thenQ_normal (W_false (by kernel_rfl) (W_skip (thenQ_normal (W_seq (W_seq (W_region (L_mv (L_cmp .i32 65 c_it7 (65 ≤ c_it7) rfl (cmp_le 65 c_it7) (by kernel_rfl) (by kernel_rfl) ?_ ?_))))))))))
          · intro h18
            replace h18 : 65 ≤ c_it7 := by omega
            refine L_mv (L_want (by kernel_rfl) (L_mv (L_want (by kernel_rfl) (L_cmp .i32 c_it7 90 (c_it7 ≤ 90) rfl (cmp_le c_it7 90) (by kernel_rfl) (by kernel_rfl) ?_ ?_))))
            · intro h19
              replace h19 : c_it7 ≤ 90 := by omega
              refine L_pickT (by kernel_rfl) (L_nil (thenQ_normal (W_true (by kernel_rfl) (W_region (L_mv (L_arith c_it7 32 (c_it7 + 32) rfl (by kernel_rfl) (by kernel_rfl) (wrap_i32 _ (by simp only [arithZ]; omega) (by simp only [arithZ]; omega)) (L_as (L_nil (thenQ_normal (W_region (L_mv (L_mv (L_app el64 w.heap.size v_3 acc (c_it7 + 32) hs r_3 (by omega) (by kernel_rfl) rfl rfl (by kernel_rfl) rfl (by kernel_rfl) (by kernel_rfl) ?_)))))))))))))
              intro v20 w21 hr22 hg23 how24
              replace hb := hb.grown hg23 hs (fun k hk => (World.ownsRow.lt r_3 k hk).1)
              replace hs := Nat.le_trans hs (hg23.size)
              have n_o_it7 := obj_grown o_it7 hg23 (r_3.ne o_it7 (by simp))
              replace o_it7 := n_o_it7; clear n_o_it7
              replace r_3 := hr22
              refine L_as (L_nil (blkQ_normal ?_))
              refine thenQ_normal ⟨_, ?_, (pos + (dec s pos).2), (acc ++ [(c_it7 + 32)]), v20, rfl, hds, by kernel_rfl, by kernel_rfl, by kernel_rfl, r_3, o_it7, hb, hs, ?_, ?_, ?_⟩
              · omega
              · omega
              · (try simp only [List.length_append, List.length_cons, List.length_nil]); omega
              · rw [← i3, runesFrom_step lt_it7, ← ch_it7, looseL_cons]; clear ch_it7; simp [dropB, *]; try (unfold lowerI; split <;> omega)
            · intro h25
              replace h25 : 90 < c_it7 := by omega
              refine L_pickT (by kernel_rfl) (L_nil (thenQ_normal (W_false (by kernel_rfl) (W_skip (thenQ_normal (W_region (L_mv (L_mv (L_app el64 w.heap.size v_3 acc c_it7 hs r_3 (by omega) (by kernel_rfl) rfl rfl (by kernel_rfl) rfl (by kernel_rfl) (by kernel_rfl) ?_)))))))))
              intro v26 w27 hr28 hg29 how30
              replace hb := hb.grown hg29 hs (fun k hk => (World.ownsRow.lt r_3 k hk).1)
              replace hs := Nat.le_trans hs (hg29.size)
              have n_o_it7 := obj_grown o_it7 hg29 (r_3.ne o_it7 (by simp))
              replace o_it7 := n_o_it7; clear n_o_it7
              replace r_3 := hr28
              refine L_as (L_nil (blkQ_normal ?_))
              refine thenQ_normal ⟨_, ?_, (pos + (dec s pos).2), (acc ++ [c_it7]), v26, rfl, hds, by kernel_rfl, by kernel_rfl, by kernel_rfl, r_3, o_it7, hb, hs, ?_, ?_, ?_⟩
              · omega
              · omega
              · (try simp only [List.length_append, List.length_cons, List.length_nil]); omega
              · rw [← i3, runesFrom_step lt_it7, ← ch_it7, looseL_cons]; clear ch_it7; simp [dropB, *]; try (unfold lowerI; split <;> omega)
          · intro h31
            replace h31 : c_it7 < 65 := by omega
            refine L_mv (L_skip (by kernel_rfl) (L_skip (by kernel_rfl) (L_pickF (by kernel_rfl) (L_nil (thenQ_normal (W_false (by kernel_rfl) (W_skip (thenQ_normal (W_region (L_mv (L_mv (L_app el64 w.heap.size v_3 acc c_it7 hs r_3 (by omega) (by kernel_rfl) rfl rfl (by kernel_rfl) rfl (by kernel_rfl) (by kernel_rfl) ?_))))))))))))
            intro v32 w33 hr34 hg35 how36
            replace hb := hb.grown hg35 hs (fun k hk => (World.ownsRow.lt r_3 k hk).1)
            replace hs := Nat.le_trans hs (hg35.size)
            have n_o_it7 := obj_grown o_it7 hg35 (r_3.ne o_it7 (by simp))
            replace o_it7 := n_o_it7; clear n_o_it7
            replace r_3 := hr34
            refine L_as (L_nil (blkQ_normal ?_))
            refine thenQ_normal ⟨_, ?_, (pos + (dec s pos).2), (acc ++ [c_it7]), v32, rfl, hds, by kernel_rfl, by kernel_rfl, by kernel_rfl, r_3, o_it7, hb, hs, ?_, ?_, ?_⟩
            · omega
            · omega
            · (try simp only [List.length_append, List.length_cons, List.length_nil]); omega
            · rw [← i3, runesFrom_step lt_it7, ← ch_it7, looseL_cons]; clear ch_it7; simp [dropB, *]; try (unfold lowerI; split <;> omega)
  · refine L_nextEnd s b1 pos (by kernel_rfl) o_it7 ge_it7 (L_run (.bool false) (by kernel_rfl) (by kernel_rfl) (L_nil (thenQ_normal (W_seq (W_false (by kernel_rfl) (W_exit (thenQ_exit (thenQ_exit (blkQ_exit (thenQ_normal (W_seq (W_region (L_mv (L_runesStr v_3 acc Try.underlying64 Try.underlying21 Try.underlying9 (by kernel_rfl) r_3.rd (L_as (L_nil (thenQ_normal (W_ret ?_))))))))))))))))))
    refine end_ret [.tmp 2] [(S (encL acc))] rfl hds ⟨by kernel_rfl, trivial⟩ ?_
    have e0 : (encL acc) = looseS s := by rw [looseS, ← i3, runesFrom_end ge_it7]; simp [looseL]
    exact ⟨congrArg S e0, hb⟩

set_option maxHeartbeats 4000000 in
set_option maxRecDepth 100000 in
theorem c_furrowlaw05_WordsGo (a : List UInt8) (b : List UInt8) (w : World) (hab : a.length + b.length ≤ 1048576) :
    Calls Try.prog 7 #[(S a), (S b)] w (Ret fun v w' => v = (.bool true) ∧ Below w.heap.size w w') := by
  refine enter (args := [(S a), (S b)]) Try.func7 rfl (by kernel_rfl : _ = 59) (by kernel_rfl) ?_
  have hb := Below.refl w.heap.size w
  have hs : w.heap.size ≤ w.heap.size := Nat.le_refl _
  have hla := looseS_len a
  have hlb := looseS_len b
  have hll := looseS_len (looseS a)
  have hap : (a ++ b).length = a.length + b.length := List.length_append
  refine W_seq (W_region (L_as (L_nil (thenQ_normal (W_seq (W_seq (W_region (L_mv (L_call 18 [(S a)] (by kernel_rfl) (by kernel_rfl) (c_words_Loose a _ (by first | omega | (simp only [List.length_append]; omega))) ?_)))))))))
  rintro _ w1 ⟨rfl, hB2⟩
  replace hb := hb.trans (hB2.mono hs)
  replace hs := Nat.le_trans hs (hB2.size)
  refine L_mv (L_call 25 [(S a)] (by kernel_rfl) (by kernel_rfl) (c_furrowlaw05_loose a _ (by first | omega | (simp only [List.length_append]; omega))) ?_)
  rintro _ w4 ⟨rfl, hB5⟩
  replace hb := hb.trans (hB5.mono hs)
  replace hs := Nat.le_trans hs (hB5.size)
  refine L_sne (looseS a) (looseS a) rfl (by kernel_rfl) (by kernel_rfl) ?_ ?_
  · intro h7
    exfalso; exact h7 rfl
  · intro h8
    refine L_mv (L_want (by kernel_rfl) (L_mv (L_want (by kernel_rfl) (L_call 18 [(S a)] (by kernel_rfl) (by kernel_rfl) (c_words_Loose a _ (by first | omega | (simp only [List.length_append]; omega))) ?_))))
    rintro _ w9 ⟨rfl, hB10⟩
    replace hb := hb.trans (hB10.mono hs)
    replace hs := Nat.le_trans hs (hB10.size)
    refine L_want (by kernel_rfl) (L_call 18 [(S (looseS a))] (by kernel_rfl) (by kernel_rfl) (c_words_Loose (looseS a) _ (by first | omega | (simp only [List.length_append]; omega))) ?_)
    rintro _ w12 ⟨rfl, hB13⟩
    replace hb := hb.trans (hB13.mono hs)
    replace hs := Nat.le_trans hs (hB13.size)
    refine L_want (by kernel_rfl) (L_mv (L_want (by kernel_rfl) (L_call 18 [(S a)] (by kernel_rfl) (by kernel_rfl) (c_words_Loose a _ (by first | omega | (simp only [List.length_append]; omega))) ?_)))
    rintro _ w15 ⟨rfl, hB16⟩
    replace hb := hb.trans (hB16.mono hs)
    replace hs := Nat.le_trans hs (hB16.size)
    refine L_want (by kernel_rfl) (L_sne (looseS (looseS a)) (looseS a) rfl (by kernel_rfl) (by kernel_rfl) ?_ ?_)
    · intro h18
      exfalso; exact h18 (looseS_idem a)
    · intro h19
      refine L_pickF (by kernel_rfl) (L_mv (L_want (by kernel_rfl) (L_mv (L_want (by kernel_rfl) (L_mv (L_want (by kernel_rfl) (L_call 20 [(S a), (S b)] (by kernel_rfl) (by kernel_rfl) (c_words_Alike a b _ (by first | omega | (simp only [List.length_append]; omega)) (by first | omega | (simp only [List.length_append]; omega))) ?_)))))))
      rintro _ w20 ⟨rfl, hB21⟩
      replace hb := hb.trans (hB21.mono hs)
      replace hs := Nat.le_trans hs (hB21.size)
      refine put_split (alikeB a b) ?_ ?_
      · intro h23
        refine L_want (by kernel_rfl) (L_mv (L_want (by kernel_rfl) (L_mv (L_want (by kernel_rfl) (L_call 20 [(S b), (S a)] (by kernel_rfl) (by kernel_rfl) (c_words_Alike b a _ (by first | omega | (simp only [List.length_append]; omega)) (by first | omega | (simp only [List.length_append]; omega))) ?_)))))
        rintro _ w24 ⟨rfl, hB25⟩
        replace hb := hb.trans (hB25.mono hs)
        replace hs := Nat.le_trans hs (hB25.size)
        refine put_split (alikeB b a) ?_ ?_
        · intro h27
          refine L_want (by kernel_rfl) (L_run (.bool false) (by kernel_rfl) (by kernel_rfl) (L_pickF (by kernel_rfl) (L_mv (L_want (by kernel_rfl) (L_mv (L_want (by kernel_rfl) (L_mv (L_want (by kernel_rfl) (L_call 18 [(S a)] (by kernel_rfl) (by kernel_rfl) (c_words_Loose a _ (by first | omega | (simp only [List.length_append]; omega))) ?_)))))))))
          rintro _ w28 ⟨rfl, hB29⟩
          replace hb := hb.trans (hB29.mono hs)
          replace hs := Nat.le_trans hs (hB29.size)
          refine L_want (by kernel_rfl) (L_call 20 [(S a), (S (looseS a))] (by kernel_rfl) (by kernel_rfl) (c_words_Alike a (looseS a) _ (by first | omega | (simp only [List.length_append]; omega)) (by first | omega | (simp only [List.length_append]; omega))) ?_)
          rintro _ w31 ⟨rfl, hB32⟩
          replace hb := hb.trans (hB32.mono hs)
          replace hs := Nat.le_trans hs (hB32.size)
          refine put_split (alikeB a (looseS a)) ?_ ?_
          · intro h34
            refine L_want (by kernel_rfl) (L_not true (by kernel_rfl) (L_pickF (by kernel_rfl) (L_nil (thenQ_normal (W_false (by kernel_rfl) (W_skip (thenQ_normal (W_seq (W_seq (W_region (L_mv (L_mv (L_sadd a b (by first | omega | (simp only [List.length_append]; omega)) (by kernel_rfl) (by kernel_rfl) (L_range (a ++ b) Try.underlying9 (by kernel_rfl) ?_))))))))))))))
            intro b35 w36 hN37
            have g_it38 : w.heap.size ≤ b35 := by rw [hN37.num]; exact hs
            replace hb := hb.trans (hN37.below.mono hs)
            replace hs := Nat.le_trans hs (hN37.below.size)
            have o_it38 := hN37.here
            refine L_nil (thenQ_normal (W_block ?_))
            refine W_loop (fun m s0 w0 => ∃ (pos : Nat), (m = (a ++ b).length - pos) ∧ (s0.ds = []) ∧ (s0.f 0 = (S a)) ∧ (s0.f 1 = (S b)) ∧ (s0.f 38 = (.pointer (some ⟨b35, 0, none⟩))) ∧ (w0.heap[b35]? = some (.stringIter ⟨((a ++ b)).toArray⟩ pos)) ∧ (Below w.heap.size w w0) ∧ (w.heap.size ≤ w0.heap.size) ∧ (pos ≤ (a ++ b).length) ∧ (seamI a b pos)) _ ⟨0, rfl, by kernel_rfl, by kernel_rfl, by kernel_rfl, by kernel_rfl, o_it38, hb, hs, by omega, seam_start a b⟩ ?_
            rintro m38 s39 w40 ⟨pos, hm, hds, f_0, f_1, f_38, o_it38, hb, hs, i1, i3⟩
            refine W_set 0 _ f_0 (W_set 1 _ f_1 (W_set 38 _ f_38 ?_))
            clear f_0 f_1 f_38
            refine W_seq (W_region ?_)
            rcases Nat.lt_or_ge pos ((a ++ b)).length with lt_it38 | ge_it38
            · refine L_next (a ++ b) b35 pos (by kernel_rfl) o_it38 lt_it38 ?_
              intro c_it38 w41 ch_it38 hW42
              replace hb := hb.trans (hW42.below g_it38)
              replace hs := Nat.le_trans hs (Nat.le_of_eq hW42.size.symm)
              replace o_it38 := hW42.here
              have := dec_pos (a ++ b) pos; have := dec_fits (a ++ b) pos lt_it38; have := dec_le (a ++ b) pos
              have c_it38_0 : 0 ≤ c_it38 := by omega
              have c_it38_1 : c_it38 ≤ 2147483647 := by omega
              refine L_run (.bool true) (by kernel_rfl) (by kernel_rfl) (L_nil (thenQ_normal (W_seq (W_true (by kernel_rfl) (W_skip (thenQ_normal (W_block (W_seq (W_region (L_run (.int .i64 ((pos : Nat) : Int)) (by kernel_rfl) (by kernel_rfl) (L_as (L_nil (thenQ_normal (W_seq (W_region (L_mv (L_mv (L_slen 9 a rfl Try.underlying9 (by kernel_rfl) (L_cmp .i64 ((pos : Nat) : Int) (((a).length : Nat) : Int) (pos = (a).length) rfl (cmpN_eq pos ((a).length)) (by kernel_rfl) (by kernel_rfl) ?_ ?_)))))))))))))))))))
              · intro h43
                replace h43 : pos = (a).length := by omega
                refine L_mv (L_want (by kernel_rfl) (L_mv (L_want (by kernel_rfl) (L_mv (L_want (by kernel_rfl) (L_sadd a b (by first | omega | (simp only [List.length_append]; omega)) (by kernel_rfl) (by kernel_rfl) (L_want (by kernel_rfl) (L_call 18 [(S (a ++ b))] (by kernel_rfl) (by kernel_rfl) (c_words_Loose (a ++ b) _ (by first | omega | (simp only [List.length_append]; omega))) ?_))))))))
                rintro _ w44 ⟨rfl, hB45⟩
                replace hb := hb.trans (hB45.mono hs)
                replace hs := Nat.le_trans hs (hB45.size)
                replace o_it38 := obj_below o_it38 hB45
                refine L_want (by kernel_rfl) (L_mv (L_want (by kernel_rfl) (L_call 18 [(S a)] (by kernel_rfl) (by kernel_rfl) (c_words_Loose a _ (by first | omega | (simp only [List.length_append]; omega))) ?_)))
                rintro _ w47 ⟨rfl, hB48⟩
                replace hb := hb.trans (hB48.mono hs)
                replace hs := Nat.le_trans hs (hB48.size)
                replace o_it38 := obj_below o_it38 hB48
                refine L_want (by kernel_rfl) (L_mv (L_want (by kernel_rfl) (L_call 18 [(S b)] (by kernel_rfl) (by kernel_rfl) (c_words_Loose b _ (by first | omega | (simp only [List.length_append]; omega))) ?_)))
                rintro _ w50 ⟨rfl, hB51⟩
                replace hb := hb.trans (hB51.mono hs)
                replace hs := Nat.le_trans hs (hB51.size)
                replace o_it38 := obj_below o_it38 hB51
                refine L_want (by kernel_rfl) (L_sadd (looseS a) (looseS b) (by first | omega | (simp only [List.length_append]; omega)) (by kernel_rfl) (by kernel_rfl) (L_want (by kernel_rfl) (L_sne (looseS (a ++ b)) (looseS a ++ looseS b) rfl (by kernel_rfl) (by kernel_rfl) ?_ ?_)))
                · intro h53
                  exfalso; exact h53 (seam_at ((by omega : pos = a.length) ▸ i3))
                · intro h54
                  refine L_pickT (by kernel_rfl) (L_nil (thenQ_normal (W_false (by kernel_rfl) (W_skip (blkQ_normal ?_)))))
                  refine thenQ_normal ⟨_, ?_, (pos + (dec (a ++ b) pos).2), rfl, hds, by kernel_rfl, by kernel_rfl, by kernel_rfl, o_it38, hb, hs, ?_, ?_⟩
                  · omega
                  · omega
                  · exact seam_step lt_it38 i3
              · intro h55
                replace h55 : pos ≠ (a).length := by omega
                refine L_mv (L_skip (by kernel_rfl) (L_skip (by kernel_rfl) (L_skip (by kernel_rfl) (L_skip (by kernel_rfl) (L_skip (by kernel_rfl) (L_skip (by kernel_rfl) (L_skip (by kernel_rfl) (L_skip (by kernel_rfl) (L_skip (by kernel_rfl) (L_skip (by kernel_rfl) (L_pickF (by kernel_rfl) (L_nil (thenQ_normal (W_false (by kernel_rfl) (W_skip (blkQ_normal ?_))))))))))))))))
                refine thenQ_normal ⟨_, ?_, (pos + (dec (a ++ b) pos).2), rfl, hds, by kernel_rfl, by kernel_rfl, by kernel_rfl, o_it38, hb, hs, ?_, ?_⟩
                · omega
                · omega
                · exact seam_step lt_it38 i3
            · refine L_nextEnd (a ++ b) b35 pos (by kernel_rfl) o_it38 ge_it38 (L_run (.bool false) (by kernel_rfl) (by kernel_rfl) (L_nil (thenQ_normal (W_seq (W_false (by kernel_rfl) (W_exit (thenQ_exit (thenQ_exit (blkQ_exit (thenQ_normal (W_seq (W_region (L_call 15 [] (by kernel_rfl) (by kernel_rfl) (c_furrowlaw05_awake  _ ) ?_)))))))))))))
              rintro _ w56 ⟨rfl, hB57⟩
              replace hb := hb.trans (hB57.mono hs)
              replace hs := Nat.le_trans hs (hB57.size)
              replace o_it38 := obj_below o_it38 hB57
              refine L_as (L_nil (thenQ_normal (W_ret ?_)))
              refine end_ret [.tmp 4] [(.bool true)] rfl hds ⟨by kernel_rfl, trivial⟩ ?_
              have e0 : true = true := by first | rfl | (exfalso; simp_all [alikeB_comm, alikeB_loose]; done)
              exact ⟨congrArg Value.bool e0, hb⟩
          · intro h59
            refine L_want (by kernel_rfl) (L_not false (by kernel_rfl) (L_pickF (by kernel_rfl) (L_nil (thenQ_normal (W_true (by kernel_rfl) (W_seq (W_region (L_as (L_nil (thenQ_normal (W_ret (thenQ_ret ?_))))))))))))
            refine end_ret [.tmp 4] [(.bool false)] rfl rfl ⟨by kernel_rfl, trivial⟩ ?_
            have e0 : false = true := by first | rfl | (exfalso; simp_all [alikeB_comm, alikeB_loose]; done)
            exact ⟨congrArg Value.bool e0, hb⟩
        · intro h60
          refine L_want (by kernel_rfl) (L_run (.bool true) (by kernel_rfl) (by kernel_rfl) (L_pickF (by kernel_rfl) (L_mv (L_skip (by kernel_rfl) (L_skip (by kernel_rfl) (L_skip (by kernel_rfl) (L_skip (by kernel_rfl) (L_skip (by kernel_rfl) (L_pickT (by kernel_rfl) (L_nil (thenQ_normal (W_true (by kernel_rfl) (W_seq (W_region (L_as (L_nil (thenQ_normal (W_ret (thenQ_ret ?_)))))))))))))))))))
          refine end_ret [.tmp 4] [(.bool false)] rfl rfl ⟨by kernel_rfl, trivial⟩ ?_
          have e0 : false = true := by first | rfl | (exfalso; simp_all [alikeB_comm, alikeB_loose]; done)
          exact ⟨congrArg Value.bool e0, hb⟩
      · intro h61
        refine L_want (by kernel_rfl) (L_mv (L_want (by kernel_rfl) (L_mv (L_want (by kernel_rfl) (L_call 20 [(S b), (S a)] (by kernel_rfl) (by kernel_rfl) (c_words_Alike b a _ (by first | omega | (simp only [List.length_append]; omega)) (by first | omega | (simp only [List.length_append]; omega))) ?_)))))
        rintro _ w62 ⟨rfl, hB63⟩
        replace hb := hb.trans (hB63.mono hs)
        replace hs := Nat.le_trans hs (hB63.size)
        refine put_split (alikeB b a) ?_ ?_
        · intro h65
          refine L_want (by kernel_rfl) (L_run (.bool true) (by kernel_rfl) (by kernel_rfl) (L_pickF (by kernel_rfl) (L_mv (L_skip (by kernel_rfl) (L_skip (by kernel_rfl) (L_skip (by kernel_rfl) (L_skip (by kernel_rfl) (L_skip (by kernel_rfl) (L_pickT (by kernel_rfl) (L_nil (thenQ_normal (W_true (by kernel_rfl) (W_seq (W_region (L_as (L_nil (thenQ_normal (W_ret (thenQ_ret ?_)))))))))))))))))))
          refine end_ret [.tmp 4] [(.bool false)] rfl rfl ⟨by kernel_rfl, trivial⟩ ?_
          have e0 : false = true := by first | rfl | (exfalso; simp_all [alikeB_comm, alikeB_loose]; done)
          exact ⟨congrArg Value.bool e0, hb⟩
        · intro h66
          refine L_want (by kernel_rfl) (L_run (.bool false) (by kernel_rfl) (by kernel_rfl) (L_pickF (by kernel_rfl) (L_mv (L_want (by kernel_rfl) (L_mv (L_want (by kernel_rfl) (L_mv (L_want (by kernel_rfl) (L_call 18 [(S a)] (by kernel_rfl) (by kernel_rfl) (c_words_Loose a _ (by first | omega | (simp only [List.length_append]; omega))) ?_)))))))))
          rintro _ w67 ⟨rfl, hB68⟩
          replace hb := hb.trans (hB68.mono hs)
          replace hs := Nat.le_trans hs (hB68.size)
          refine L_want (by kernel_rfl) (L_call 20 [(S a), (S (looseS a))] (by kernel_rfl) (by kernel_rfl) (c_words_Alike a (looseS a) _ (by first | omega | (simp only [List.length_append]; omega)) (by first | omega | (simp only [List.length_append]; omega))) ?_)
          rintro _ w70 ⟨rfl, hB71⟩
          replace hb := hb.trans (hB71.mono hs)
          replace hs := Nat.le_trans hs (hB71.size)
          refine put_split (alikeB a (looseS a)) ?_ ?_
          · intro h73
            refine L_want (by kernel_rfl) (L_not true (by kernel_rfl) (L_pickF (by kernel_rfl) (L_nil (thenQ_normal (W_false (by kernel_rfl) (W_skip (thenQ_normal (W_seq (W_seq (W_region (L_mv (L_mv (L_sadd a b (by first | omega | (simp only [List.length_append]; omega)) (by kernel_rfl) (by kernel_rfl) (L_range (a ++ b) Try.underlying9 (by kernel_rfl) ?_))))))))))))))
            intro b74 w75 hN76
            have g_it38 : w.heap.size ≤ b74 := by rw [hN76.num]; exact hs
            replace hb := hb.trans (hN76.below.mono hs)
            replace hs := Nat.le_trans hs (hN76.below.size)
            have o_it38 := hN76.here
            refine L_nil (thenQ_normal (W_block ?_))
            refine W_loop (fun m s0 w0 => ∃ (pos : Nat), (m = (a ++ b).length - pos) ∧ (s0.ds = []) ∧ (s0.f 0 = (S a)) ∧ (s0.f 1 = (S b)) ∧ (s0.f 38 = (.pointer (some ⟨b74, 0, none⟩))) ∧ (w0.heap[b74]? = some (.stringIter ⟨((a ++ b)).toArray⟩ pos)) ∧ (Below w.heap.size w w0) ∧ (w.heap.size ≤ w0.heap.size) ∧ (pos ≤ (a ++ b).length) ∧ (seamI a b pos)) _ ⟨0, rfl, by kernel_rfl, by kernel_rfl, by kernel_rfl, by kernel_rfl, o_it38, hb, hs, by omega, seam_start a b⟩ ?_
            rintro m77 s78 w79 ⟨pos, hm, hds, f_0, f_1, f_38, o_it38, hb, hs, i1, i3⟩
            refine W_set 0 _ f_0 (W_set 1 _ f_1 (W_set 38 _ f_38 ?_))
            clear f_0 f_1 f_38
            refine W_seq (W_region ?_)
            rcases Nat.lt_or_ge pos ((a ++ b)).length with lt_it38 | ge_it38
            · refine L_next (a ++ b) b74 pos (by kernel_rfl) o_it38 lt_it38 ?_
              intro c_it38 w80 ch_it38 hW81
              replace hb := hb.trans (hW81.below g_it38)
              replace hs := Nat.le_trans hs (Nat.le_of_eq hW81.size.symm)
              replace o_it38 := hW81.here
              have := dec_pos (a ++ b) pos; have := dec_fits (a ++ b) pos lt_it38; have := dec_le (a ++ b) pos
              have c_it38_0 : 0 ≤ c_it38 := by omega
              have c_it38_1 : c_it38 ≤ 2147483647 := by omega
              refine L_run (.bool true) (by kernel_rfl) (by kernel_rfl) (L_nil (thenQ_normal (W_seq (W_true (by kernel_rfl) (W_skip (thenQ_normal (W_block (W_seq (W_region (L_run (.int .i64 ((pos : Nat) : Int)) (by kernel_rfl) (by kernel_rfl) (L_as (L_nil (thenQ_normal (W_seq (W_region (L_mv (L_mv (L_slen 9 a rfl Try.underlying9 (by kernel_rfl) (L_cmp .i64 ((pos : Nat) : Int) (((a).length : Nat) : Int) (pos = (a).length) rfl (cmpN_eq pos ((a).length)) (by kernel_rfl) (by kernel_rfl) ?_ ?_)))))))))))))))))))
              · intro h82
                replace h82 : pos = (a).length := by omega
                refine L_mv (L_want (by kernel_rfl) (L_mv (L_want (by kernel_rfl) (L_mv (L_want (by kernel_rfl) (L_sadd a b (by first | omega | (simp only [List.length_append]; omega)) (by kernel_rfl) (by kernel_rfl) (L_want (by kernel_rfl) (L_call 18 [(S (a ++ b))] (by kernel_rfl) (by kernel_rfl) (c_words_Loose (a ++ b) _ (by first | omega | (simp only [List.length_append]; omega))) ?_))))))))
                rintro _ w83 ⟨rfl, hB84⟩
                replace hb := hb.trans (hB84.mono hs)
                replace hs := Nat.le_trans hs (hB84.size)
                replace o_it38 := obj_below o_it38 hB84
                refine L_want (by kernel_rfl) (L_mv (L_want (by kernel_rfl) (L_call 18 [(S a)] (by kernel_rfl) (by kernel_rfl) (c_words_Loose a _ (by first | omega | (simp only [List.length_append]; omega))) ?_)))
                rintro _ w86 ⟨rfl, hB87⟩
                replace hb := hb.trans (hB87.mono hs)
                replace hs := Nat.le_trans hs (hB87.size)
                replace o_it38 := obj_below o_it38 hB87
                refine L_want (by kernel_rfl) (L_mv (L_want (by kernel_rfl) (L_call 18 [(S b)] (by kernel_rfl) (by kernel_rfl) (c_words_Loose b _ (by first | omega | (simp only [List.length_append]; omega))) ?_)))
                rintro _ w89 ⟨rfl, hB90⟩
                replace hb := hb.trans (hB90.mono hs)
                replace hs := Nat.le_trans hs (hB90.size)
                replace o_it38 := obj_below o_it38 hB90
                refine L_want (by kernel_rfl) (L_sadd (looseS a) (looseS b) (by first | omega | (simp only [List.length_append]; omega)) (by kernel_rfl) (by kernel_rfl) (L_want (by kernel_rfl) (L_sne (looseS (a ++ b)) (looseS a ++ looseS b) rfl (by kernel_rfl) (by kernel_rfl) ?_ ?_)))
                · intro h92
                  exfalso; exact h92 (seam_at ((by omega : pos = a.length) ▸ i3))
                · intro h93
                  refine L_pickT (by kernel_rfl) (L_nil (thenQ_normal (W_false (by kernel_rfl) (W_skip (blkQ_normal ?_)))))
                  refine thenQ_normal ⟨_, ?_, (pos + (dec (a ++ b) pos).2), rfl, hds, by kernel_rfl, by kernel_rfl, by kernel_rfl, o_it38, hb, hs, ?_, ?_⟩
                  · omega
                  · omega
                  · exact seam_step lt_it38 i3
              · intro h94
                replace h94 : pos ≠ (a).length := by omega
                refine L_mv (L_skip (by kernel_rfl) (L_skip (by kernel_rfl) (L_skip (by kernel_rfl) (L_skip (by kernel_rfl) (L_skip (by kernel_rfl) (L_skip (by kernel_rfl) (L_skip (by kernel_rfl) (L_skip (by kernel_rfl) (L_skip (by kernel_rfl) (L_skip (by kernel_rfl) (L_pickF (by kernel_rfl) (L_nil (thenQ_normal (W_false (by kernel_rfl) (W_skip (blkQ_normal ?_))))))))))))))))
                refine thenQ_normal ⟨_, ?_, (pos + (dec (a ++ b) pos).2), rfl, hds, by kernel_rfl, by kernel_rfl, by kernel_rfl, o_it38, hb, hs, ?_, ?_⟩
                · omega
                · omega
                · exact seam_step lt_it38 i3
            · refine L_nextEnd (a ++ b) b74 pos (by kernel_rfl) o_it38 ge_it38 (L_run (.bool false) (by kernel_rfl) (by kernel_rfl) (L_nil (thenQ_normal (W_seq (W_false (by kernel_rfl) (W_exit (thenQ_exit (thenQ_exit (blkQ_exit (thenQ_normal (W_seq (W_region (L_call 15 [] (by kernel_rfl) (by kernel_rfl) (c_furrowlaw05_awake  _ ) ?_)))))))))))))
              rintro _ w95 ⟨rfl, hB96⟩
              replace hb := hb.trans (hB96.mono hs)
              replace hs := Nat.le_trans hs (hB96.size)
              replace o_it38 := obj_below o_it38 hB96
              refine L_as (L_nil (thenQ_normal (W_ret ?_)))
              refine end_ret [.tmp 4] [(.bool true)] rfl hds ⟨by kernel_rfl, trivial⟩ ?_
              have e0 : true = true := by first | rfl | (exfalso; simp_all [alikeB_comm, alikeB_loose]; done)
              exact ⟨congrArg Value.bool e0, hb⟩
          · intro h98
            refine L_want (by kernel_rfl) (L_not false (by kernel_rfl) (L_pickF (by kernel_rfl) (L_nil (thenQ_normal (W_true (by kernel_rfl) (W_seq (W_region (L_as (L_nil (thenQ_normal (W_ret (thenQ_ret ?_))))))))))))
            refine end_ret [.tmp 4] [(.bool false)] rfl rfl ⟨by kernel_rfl, trivial⟩ ?_
            have e0 : false = true := by first | rfl | (exfalso; simp_all [alikeB_comm, alikeB_loose]; done)
            exact ⟨congrArg Value.bool e0, hb⟩

end Go.Proofs.Ytbknjmjflfkhkaa
