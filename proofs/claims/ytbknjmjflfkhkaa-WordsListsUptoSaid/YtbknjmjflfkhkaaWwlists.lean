/- Walks, written by my program walk.py out of the specification wlists.py: each theorem says what one function returns and that it leaves memory as it was. -/
import Derived.Test.YtbknjmjflfkhkaaPList
import Derived.Test.YtbknjmjflfkhkaaWwords
import Derived.Test.YtbknjmjflfkhkaaWwnames
import Derived.Test.YtbknjmjflfkhkaaWweach
import Derived.Test.YtbknjmjflfkhkaaWwlist
import Derived.Test.YtbknjmjflfkhkaaFKk
import Derived.Test.YtbknjmjflfkhkaaProg
namespace Go.Proofs.Ytbknjmjflfkhkaa
open Go Go.RowKit Go.FK
set_option linter.unusedVariables false


set_option maxHeartbeats 4000000 in
set_option maxRecDepth 100000 in
theorem c_furrowlaw05_WordsLists (s : List UInt8) (v_l : Value) (l : List (Int)) (w : World) (p_l : Rd w encU8 v_l l) (hs : s.length ≤ 1048576) (hl : l.length ≤ 1048576) (hr : ∀ x ∈ l, 0 ≤ x ∧ x ≤ 255) :
    Calls Try.prog 10 #[(S s), v_l] w (Ret fun v w' => v = (.bool true) ∧ Below w.heap.size w w') := by
  refine enter (args := [(S s), v_l]) Try.func10 rfl (by kernel_rfl : _ = 142) (by kernel_rfl) ?_
  have hb := Below.refl w.heap.size w
  have hs : w.heap.size ≤ w.heap.size := Nat.le_refl _
  have in_p_l := p_l
  have hcl := classes_len s
  refine W_seq (W_region (L_as (L_nil (thenQ_normal (W_seq (W_region (L_mv (L_call 33 [(S s)] (by kernel_rfl) (by kernel_rfl) (c_words_Classes s _ (by first | omega | (simp; done) | (simp; omega))) ?_))))))))
  rintro _ w2 ⟨q1, rfl, r_q1, hB3⟩
  replace r_q1 := r_q1.base hs
  replace hb := hb.trans (hB3.mono hs)
  replace hs := Nat.le_trans hs (hB3.size)
  replace p_l := p_l.below hB3
  refine L_mv (L_run q1 (by kernel_rfl) (by kernel_rfl) (L_run (.int .i64 ((classesF s).2.1)) (by kernel_rfl) (by kernel_rfl) (L_run (.int .i64 ((classesF s).2.2)) (by kernel_rfl) (by kernel_rfl) (L_as (L_as (L_as (L_nil (thenQ_normal (W_seq (W_region (L_mv (L_call 33 [(S s)] (by kernel_rfl) (by kernel_rfl) (c_words_Classes s _ (by first | omega | (simp; done) | (simp; omega))) ?_))))))))))))
  rintro _ w6 ⟨q5, rfl, r_q5, hB7⟩
  have ap_r_q5_r_q1 := ap_call r_q5 r_q1; have ap_r_q1_r_q5 := ap_comm ap_r_q5_r_q1
  replace r_q5 := r_q5.base hs
  replace hb := hb.trans (hB7.mono hs)
  replace hs := Nat.le_trans hs (hB7.size)
  replace p_l := p_l.below hB7
  replace r_q1 := r_q1.below hB7
  refine L_mv (L_run q5 (by kernel_rfl) (by kernel_rfl) (L_run (.int .i64 ((classesF s).2.1)) (by kernel_rfl) (by kernel_rfl) (L_run (.int .i64 ((classesF s).2.2)) (by kernel_rfl) (by kernel_rfl) (L_as (L_as (L_as (L_nil (thenQ_normal (W_seq (W_region (L_mv (L_call 34 [(S s)] (by kernel_rfl) (by kernel_rfl) (c_furrowref05_Classes s _ (by first | omega | (simp; done) | (simp; omega))) ?_))))))))))))
  rintro _ w10 ⟨q9, rfl, r_q9, hB11⟩
  have ap_r_q9_r_q1 := ap_call r_q9 r_q1; have ap_r_q1_r_q9 := ap_comm ap_r_q9_r_q1
  have ap_r_q9_r_q5 := ap_call r_q9 r_q5; have ap_r_q5_r_q9 := ap_comm ap_r_q9_r_q5
  replace r_q9 := r_q9.base hs
  replace hb := hb.trans (hB11.mono hs)
  replace hs := Nat.le_trans hs (hB11.size)
  replace p_l := p_l.below hB11
  replace r_q1 := r_q1.below hB11
  replace r_q5 := r_q5.below hB11
  refine L_mv (L_run q9 (by kernel_rfl) (by kernel_rfl) (L_run (.int .i64 ((classesF s).2.1)) (by kernel_rfl) (by kernel_rfl) (L_run (.int .i64 ((classesF s).2.2)) (by kernel_rfl) (by kernel_rfl) (L_as (L_as (L_as (L_nil (thenQ_normal (W_seq (W_seq (W_region (L_mv (L_mv (L_call 35 [q1, q9] (by kernel_rfl) (by kernel_rfl) (c_furrowlaw05_same q1 ((classesF s).1) q9 ((classesF s).1) _ r_q1.rd r_q9.rd (by first | omega | (simp; done) | (simp; omega))) ?_))))))))))))))
  rintro _ w13 ⟨rfl, hB14⟩
  replace hb := hb.trans (hB14.mono hs)
  replace hs := Nat.le_trans hs (hB14.size)
  replace p_l := p_l.below hB14
  replace r_q1 := r_q1.below hB14
  replace r_q5 := r_q5.below hB14
  replace r_q9 := r_q9.below hB14
  refine put_split (decide (((classesF s).1) = ((classesF s).1))) ?_ ?_
  · intro h16
    refine L_not true (by kernel_rfl) (L_mv (L_want (by kernel_rfl) (L_mv (L_want (by kernel_rfl) (L_mv (L_want (by kernel_rfl) (L_call 35 [q5, q9] (by kernel_rfl) (by kernel_rfl) (c_furrowlaw05_same q5 ((classesF s).1) q9 ((classesF s).1) _ r_q5.rd r_q9.rd (by first | omega | (simp; done) | (simp; omega))) ?_)))))))
    rintro _ w17 ⟨rfl, hB18⟩
    replace hb := hb.trans (hB18.mono hs)
    replace hs := Nat.le_trans hs (hB18.size)
    replace p_l := p_l.below hB18
    replace r_q1 := r_q1.below hB18
    replace r_q5 := r_q5.below hB18
    replace r_q9 := r_q9.below hB18
    refine put_split (decide (((classesF s).1) = ((classesF s).1))) ?_ ?_
    · intro h20
      refine L_want (by kernel_rfl) (L_not true (by kernel_rfl) (L_pickF (by kernel_rfl) (L_mv (L_want (by kernel_rfl) (L_mv (L_want (by kernel_rfl) (L_mv (L_want (by kernel_rfl) (L_cmp .i64 ((classesF s).2.1) ((classesF s).2.1) ((classesF s).2.1 ≠ (classesF s).2.1) rfl (cmp_ne ((classesF s).2.1) ((classesF s).2.1)) (by kernel_rfl) (by kernel_rfl) ?_ ?_)))))))))
      · intro h21
        replace h21 : (classesF s).2.1 ≠ (classesF s).2.1 := by omega
        refine L_pickF (by kernel_rfl) (L_mv (L_skip (by kernel_rfl) (L_skip (by kernel_rfl) (L_skip (by kernel_rfl) (L_pickT (by kernel_rfl) (L_nil (thenQ_normal (W_true (by kernel_rfl) (W_seq (W_region (L_as (L_nil (thenQ_normal (W_ret (thenQ_ret ?_)))))))))))))))
        refine end_ret [.tmp 4] [(.bool false)] rfl rfl ⟨by kernel_rfl, trivial⟩ ?_
        have e0 : false = true := by first | rfl | (exfalso; omega) | (exfalso; simp_all; done)
        exact ⟨congrArg Value.bool e0, hb⟩
      · intro h22
        replace h22 : (classesF s).2.1 = (classesF s).2.1 := by omega
        refine L_pickF (by kernel_rfl) (L_mv (L_want (by kernel_rfl) (L_mv (L_want (by kernel_rfl) (L_mv (L_want (by kernel_rfl) (L_cmp .i64 ((classesF s).2.2) ((classesF s).2.2) ((classesF s).2.2 ≠ (classesF s).2.2) rfl (cmp_ne ((classesF s).2.2) ((classesF s).2.2)) (by kernel_rfl) (by kernel_rfl) ?_ ?_)))))))
        · intro h23
          replace h23 : (classesF s).2.2 ≠ (classesF s).2.2 := by omega
          refine L_pickF (by kernel_rfl) (L_nil (thenQ_normal (W_true (by kernel_rfl) (W_seq (W_region (L_as (L_nil (thenQ_normal (W_ret (thenQ_ret ?_))))))))))
          refine end_ret [.tmp 4] [(.bool false)] rfl rfl ⟨by kernel_rfl, trivial⟩ ?_
          have e0 : false = true := by first | rfl | (exfalso; omega) | (exfalso; simp_all; done)
          exact ⟨congrArg Value.bool e0, hb⟩
        · intro h24
          replace h24 : (classesF s).2.2 = (classesF s).2.2 := by omega
          refine L_pickF (by kernel_rfl) (L_nil (thenQ_normal (W_false (by kernel_rfl) (W_skip (thenQ_normal (W_seq (W_seq (W_region (L_as (L_nil (thenQ_normal (W_block ?_))))))))))))
          refine W_loop (fun m s0 w0 => ∃ (i : Nat) (xs : List Int) (v_5 : Value), (m = xs.length - i) ∧ (s0.ds = []) ∧ (s0.f 1 = v_l) ∧ (s0.f 4 = (.bool false)) ∧ (s0.f 8 = q5) ∧ (s0.f 11 = q9) ∧ (s0.f 5 = v_5) ∧ (s0.f 14 = (.int .i64 ((i : Nat) : Int))) ∧ (Rd w0 encU8 v_l l) ∧ (Row w0 w.heap.size 34 1 encU8 q5 ((classesF s).1)) ∧ (Row w0 w.heap.size 34 1 encU8 q9 ((classesF s).1)) ∧ (Row w0 w.heap.size 34 1 encU8 v_5 xs) ∧ (Value.ownBlock q5 = none ∨ Value.ownBlock q5 ≠ Value.ownBlock v_5) ∧ (Value.ownBlock q9 = none ∨ Value.ownBlock q9 ≠ Value.ownBlock v_5) ∧ (Below w.heap.size w w0) ∧ (w.heap.size ≤ w0.heap.size) ∧ (i ≤ xs.length) ∧ (xs.length = (classesF s).1.length)) _ ⟨0, ((classesF s).1), q1, rfl, by kernel_rfl, by kernel_rfl, by kernel_rfl, by kernel_rfl, by kernel_rfl, by kernel_rfl, by kernel_rfl, p_l, r_q5, r_q9, r_q1, ap_r_q5_r_q1, ap_r_q9_r_q1, hb, hs, Nat.zero_le _, rfl⟩ ?_
          rintro m25 s26 w27 ⟨i, xs, v_5, hm, hds, f_1, f_4, f_8, f_11, f_5, f_14, p_l, r_q5, r_q9, r_5, ap_r_q5_r_5, ap_r_q9_r_5, hb, hs, i1, i2⟩
          refine W_set 1 _ f_1 (W_set 4 _ f_4 (W_set 8 _ f_8 (W_set 11 _ f_11 (W_set 5 _ f_5 (W_set 14 _ f_14 ?_)))))
          clear f_1 f_4 f_8 f_11 f_5 f_14
          refine W_seq (W_seq (W_region (L_mv (L_mv (L_len 49 34 (xs).length v_5 rfl Try.underlying49 (r_5.rd).len (by kernel_rfl) (L_cmp .i64 ((i : Nat) : Int) (((xs).length : Nat) : Int) (i < (xs).length) rfl (cmpN_lt i ((xs).length)) (by kernel_rfl) (by kernel_rfl) ?_ ?_))))))
          · intro h28
            replace h28 : i < (xs).length := by omega
            refine L_nil (thenQ_normal (W_true (by kernel_rfl) (W_skip (thenQ_normal (W_seq (W_block (W_region (L_mv (L_mv ?_)))))))))
            have hz := get_some xs i (by first | omega | (simp; done) | (simp; omega)); obtain ⟨x29, hx30⟩ := hz
            have hz := (r_5.rd).at (k := 1) (fun _ => rfl) hx30
            obtain ⟨g31, off32, hl33, hc34⟩ := hz
            refine L_ixaddr (k := .i64) v_5 i _ g31 off32 el49 hl33 (by first | omega | (simp; done) | (simp; omega)) (by kernel_rfl) (by kernel_rfl) (L_storeRow i 0 g31 off32 x29 99 (.int .u8 99) r_5 (fun _ => rfl) hx30 hl33 (by kernel_rfl) (by kernel_rfl) rfl (by kernel_rfl) (by kernel_rfl) rfl ?_)
            intro w35 hr36 hg37
            replace hb := hb.grown hg37 hs (fun k hk => (World.ownsRow.lt r_5 k hk).1)
            replace hs := Nat.le_trans hs (hg37.size)
            have n_p_l := in_p_l.below hb
            have n_r_q5 := r_q5.grown hg37 ap_r_q5_r_5
            have n_r_q9 := r_q9.grown hg37 ap_r_q9_r_5
            replace p_l := n_p_l; clear n_p_l
            replace r_q5 := n_r_q5; clear n_r_q5
            replace r_q9 := n_r_q9; clear n_r_q9
            replace r_5 := hr36
            refine L_nil (blkQ_normal (thenQ_normal (W_region (L_mv (L_addN i 1 (by omega) (by kernel_rfl) (by kernel_rfl) (L_as (L_nil ?_)))))))
            refine thenQ_normal ⟨_, ?_, (i + 1), (List.set xs i 99), v_5, rfl, hds, by kernel_rfl, by kernel_rfl, by kernel_rfl, by kernel_rfl, by kernel_rfl, by kernel_rfl, p_l, r_q5, r_q9, r_5, ap_r_q5_r_5, ap_r_q9_r_5, hb, hs, ?_, ?_⟩
            · simp; omega
            · simp; omega
            · simpa using i2
          · intro h38
            replace h38 : (xs).length ≤ i := by omega
            refine L_nil (thenQ_normal (W_false (by kernel_rfl) (W_exit (thenQ_exit (thenQ_exit (blkQ_exit (thenQ_normal (W_seq (W_seq (W_region (L_as (L_nil (thenQ_normal (W_block ?_))))))))))))))
            refine W_loop (fun m s0 w0 => ∃ (i : Nat) (xs : List Int) (v_5 : Value), (m = 40 - i) ∧ (s0.ds = []) ∧ (s0.f 1 = v_l) ∧ (s0.f 4 = (.bool false)) ∧ (s0.f 8 = q5) ∧ (s0.f 11 = q9) ∧ (s0.f 5 = v_5) ∧ (s0.f 15 = (.int .i64 ((i : Nat) : Int))) ∧ (Rd w0 encU8 v_l l) ∧ (Row w0 w.heap.size 34 1 encU8 q5 ((classesF s).1)) ∧ (Row w0 w.heap.size 34 1 encU8 q9 ((classesF s).1)) ∧ (Row w0 w.heap.size 34 1 encU8 v_5 xs) ∧ (Value.ownBlock q5 = none ∨ Value.ownBlock q5 ≠ Value.ownBlock v_5) ∧ (Value.ownBlock q9 = none ∨ Value.ownBlock q9 ≠ Value.ownBlock v_5) ∧ (Below w.heap.size w w0) ∧ (w.heap.size ≤ w0.heap.size) ∧ (i ≤ 40) ∧ (xs.length = (classesF s).1.length + i)) _ ⟨0, xs, v_5, rfl, hds, by kernel_rfl, by kernel_rfl, by kernel_rfl, by kernel_rfl, by kernel_rfl, by kernel_rfl, p_l, r_q5, r_q9, r_5, ap_r_q5_r_5, ap_r_q9_r_5, hb, hs, by omega, i2⟩ ?_
            rintro m39 s40 w41 ⟨i, xs, v_5, hm, hds, f_1, f_4, f_8, f_11, f_5, f_15, p_l, r_q5, r_q9, r_5, ap_r_q5_r_5, ap_r_q9_r_5, hb, hs, i1, i2⟩
            refine W_set 1 _ f_1 (W_set 4 _ f_4 (W_set 8 _ f_8 (W_set 11 _ f_11 (W_set 5 _ f_5 (W_set 15 _ f_15 ?_)))))
            clear f_1 f_4 f_8 f_11 f_5 f_15
            refine W_seq (W_seq (W_region (L_mv (L_cmp .i64 ((i : Nat) : Int) ((40 : Nat) : Int) (i < 40) rfl (cmpN_lt i 40) (by kernel_rfl) (by kernel_rfl) ?_ ?_))))
            · intro h42
              replace h42 : i < 40 := by omega
              refine L_nil (thenQ_normal (W_true (by kernel_rfl) (W_skip (thenQ_normal (W_seq (W_block (W_region (L_mv (L_app el49 w.heap.size v_5 xs 98 hs r_5 (by first | omega | (simp; done) | (simp; omega)) (by kernel_rfl) rfl rfl (by kernel_rfl) rfl (by kernel_rfl) (by kernel_rfl) ?_)))))))))
              intro v43 w44 hr45 hg46 how47
              have nap_r_q5 := ap_app r_q5 how47 ap_r_q5_r_5
              have nap_r_q9 := ap_app r_q9 how47 ap_r_q9_r_5
              replace hb := hb.grown hg46 hs (fun k hk => (World.ownsRow.lt r_5 k hk).1)
              replace hs := Nat.le_trans hs (hg46.size)
              have n_p_l := in_p_l.below hb
              have n_r_q5 := r_q5.grown hg46 ap_r_q5_r_5
              have n_r_q9 := r_q9.grown hg46 ap_r_q9_r_5
              replace p_l := n_p_l; clear n_p_l
              replace r_q5 := n_r_q5; clear n_r_q5
              replace r_q9 := n_r_q9; clear n_r_q9
              have ap_r_q5_r_5 := nap_r_q5
              have ap_r_q9_r_5 := nap_r_q9
              replace r_5 := hr45
              refine L_as (L_nil (blkQ_normal (thenQ_normal (W_region (L_mv (L_addN i 1 (by omega) (by kernel_rfl) (by kernel_rfl) (L_as (L_nil ?_))))))))
              refine thenQ_normal ⟨_, ?_, (i + 1), (xs ++ [98]), v43, rfl, hds, by kernel_rfl, by kernel_rfl, by kernel_rfl, by kernel_rfl, by kernel_rfl, by kernel_rfl, p_l, r_q5, r_q9, r_5, ap_r_q5_r_5, ap_r_q9_r_5, hb, hs, ?_, ?_⟩
              · omega
              · omega
              · simp; omega
            · intro h48
              replace h48 : 40 ≤ i := by omega
              refine L_nil (thenQ_normal (W_false (by kernel_rfl) (W_exit (thenQ_exit (thenQ_exit (blkQ_exit (thenQ_normal (W_seq (W_region (L_mv (L_appAll el49 w.heap.size (.slice none 0 0) v_l ([] : List (Int)) l hs (Row.nil _ w.heap.size 34 1 encU8) p_l (by first | omega | (simp; done) | (simp; omega)) (fun _ => rfl) (fun _ => rfl) (by kernel_rfl) (by kernel_rfl) (by kernel_rfl) ?_)))))))))))
              intro v49 w50 hr51 hg52 how53
              have nap_r_q5 := ap_app2 r_q5 how53 (ap_nil _)
              have nap_r_q9 := ap_app2 r_q9 how53 (ap_nil _)
              have nap_r_5 := ap_app2 r_5 how53 (ap_nil _)
              replace hb := hb.grown hg52 hs (fun k hk => by simp [Value.ownBlock] at hk)
              replace hs := Nat.le_trans hs (hg52.size)
              have p_l := in_p_l.below hb
              have r_q5 := r_q5.grown hg52 (by cases h : Value.ownBlock _ <;> simp [Value.ownBlock])
              have r_q9 := r_q9.grown hg52 (by cases h : Value.ownBlock _ <;> simp [Value.ownBlock])
              have r_5 := r_5.grown hg52 (by cases h : Value.ownBlock _ <;> simp [Value.ownBlock])
              have ap_r_q5_r_76 := nap_r_q5
              have ap_r_76_r_q5 := ap_comm nap_r_q5
              have ap_r_q9_r_76 := nap_r_q9
              have ap_r_76_r_q9 := ap_comm nap_r_q9
              have ap_r_5_r_76 := nap_r_5
              have ap_r_76_r_5 := ap_comm nap_r_5
              have r_76 := hr51
              refine L_as (L_nil (thenQ_normal (W_seq (W_region (L_mv (L_new (fun b => .slice (some ⟨b, 0, none⟩) 2 2) (.cells [(.int .u8 77), (.int .u8 78)].toArray 34 (0, 0)) (by kernel_rfl) (by kernel_rfl) ?_))))))
              intro b54 w55 hN56
              have g_b54 : w.heap.size ≤ b54 := by rw [hN56.num]; exact hs
              have ap_r_q5_r_b54 : Value.ownBlock q5 = none ∨ Value.ownBlock q5 ≠ Value.ownBlock (.slice (some ⟨b54, 0, none⟩) 2 2) := .inr (r_q5.new_ne hN56)
              have ap_r_b54_r_q5 := ap_comm ap_r_q5_r_b54
              have ap_r_q9_r_b54 : Value.ownBlock q9 = none ∨ Value.ownBlock q9 ≠ Value.ownBlock (.slice (some ⟨b54, 0, none⟩) 2 2) := .inr (r_q9.new_ne hN56)
              have ap_r_b54_r_q9 := ap_comm ap_r_q9_r_b54
              have ap_r_5_r_b54 : Value.ownBlock v_5 = none ∨ Value.ownBlock v_5 ≠ Value.ownBlock (.slice (some ⟨b54, 0, none⟩) 2 2) := .inr (r_5.new_ne hN56)
              have ap_r_b54_r_5 := ap_comm ap_r_5_r_b54
              have ap_r_76_r_b54 : Value.ownBlock v49 = none ∨ Value.ownBlock v49 ≠ Value.ownBlock (.slice (some ⟨b54, 0, none⟩) 2 2) := .inr (r_76.new_ne hN56)
              have ap_r_b54_r_76 := ap_comm ap_r_76_r_b54
              replace hb := hb.trans (hN56.below.mono hs)
              replace hs := Nat.le_trans hs (hN56.below.size)
              replace p_l := p_l.below hN56.below
              replace r_q5 := r_q5.below hN56.below
              replace r_q9 := r_q9.below hN56.below
              replace r_5 := r_5.below hN56.below
              replace r_76 := r_76.below hN56.below
              have r_b54 : Row w55 w.heap.size 34 1 encU8 (.slice (some ⟨b54, 0, none⟩) 2 2) ([77, 78] : List (Int)) := Row.made ([77, 78] : List (Int)) hN56 g_b54 rfl rfl (by first | decide | (simp; done))
              refine L_appAll el49 w.heap.size v49 (.slice (some ⟨b54, 0, none⟩) 2 2) (([] : List (Int)) ++ l) ([77, 78] : List (Int)) hs r_76 r_b54.rd (by first | omega | (simp; done) | (simp; omega)) (fun _ => rfl) (fun _ => rfl) (by kernel_rfl) (by kernel_rfl) (by kernel_rfl) ?_
              intro v57 w58 hr59 hg60 how61
              have nap_r_q5 := ap_app2 r_q5 how61 ap_r_q5_r_76
              have nap_r_q9 := ap_app2 r_q9 how61 ap_r_q9_r_76
              have nap_r_5 := ap_app2 r_5 how61 ap_r_5_r_76
              have nap_r_b54 := ap_app2 r_b54 how61 ap_r_b54_r_76
              replace hb := hb.grown hg60 hs (fun k hk => (World.ownsRow.lt r_76 k hk).1)
              replace hs := Nat.le_trans hs (hg60.size)
              have n_p_l := in_p_l.below hb
              have n_r_q5 := r_q5.grown hg60 ap_r_q5_r_76
              have n_r_q9 := r_q9.grown hg60 ap_r_q9_r_76
              have n_r_5 := r_5.grown hg60 ap_r_5_r_76
              have n_r_b54 := r_b54.grown hg60 ap_r_b54_r_76
              replace p_l := n_p_l; clear n_p_l
              replace r_q5 := n_r_q5; clear n_r_q5
              replace r_q9 := n_r_q9; clear n_r_q9
              replace r_5 := n_r_5; clear n_r_5
              replace r_b54 := n_r_b54; clear n_r_b54
              have ap_r_q5_r_76 := nap_r_q5
              have ap_r_76_r_q5 := ap_comm nap_r_q5
              have ap_r_q9_r_76 := nap_r_q9
              have ap_r_76_r_q9 := ap_comm nap_r_q9
              have ap_r_5_r_76 := nap_r_5
              have ap_r_76_r_5 := ap_comm nap_r_5
              have ap_r_b54_r_76 := nap_r_b54
              have ap_r_76_r_b54 := ap_comm nap_r_b54
              replace r_76 := hr59
              refine L_as (L_nil (thenQ_normal (W_seq (W_region (L_mv (L_mv (L_len 49 34 (l).length v_l rfl Try.underlying49 (p_l).len (by kernel_rfl) (L_slto el49 v57 ((([] : List (Int)) ++ l) ++ ([77, 78] : List (Int))) ((l).length) r_76 (fun _ => rfl) (by first | omega | (simp; done) | (simp; omega)) (by kernel_rfl) ⟨.i64, by kernel_rfl⟩ ?_))))))))
              intro v62 r_v63
              refine L_call 36 [v62] (by kernel_rfl) (by kernel_rfl) (c_words_Write v62 (List.take ((l).length) ((([] : List (Int)) ++ l) ++ ([77, 78] : List (Int)))) _ r_v63 (by first | omega | (simp; done) | (simp; omega)) (by first | omega | (simp; done) | (simp; omega))) ?_
              rintro _ w64 ⟨rfl, hB65⟩
              replace hb := hb.trans (hB65.mono hs)
              replace hs := Nat.le_trans hs (hB65.size)
              replace p_l := p_l.below hB65
              replace r_q5 := r_q5.below hB65
              replace r_q9 := r_q9.below hB65
              replace r_5 := r_5.below hB65
              replace r_76 := r_76.below hB65
              replace r_b54 := r_b54.below hB65
              replace r_v63 := r_v63.below hB65
              refine L_mv (L_run (S ((writeF (List.take ((l).length) ((([] : List (Int)) ++ l) ++ ([77, 78] : List (Int))))).1)) (by kernel_rfl) (by kernel_rfl) (L_run (.int .i64 ((writeF (List.take ((l).length) ((([] : List (Int)) ++ l) ++ ([77, 78] : List (Int))))).2)) (by kernel_rfl) (by kernel_rfl) (L_as (L_as (L_nil (thenQ_normal (W_seq (W_region (L_mv (L_call 37 [v_l] (by kernel_rfl) (by kernel_rfl) (c_furrowref05_Write v_l l _ p_l (by first | omega | (simp; done) | (simp; omega)) (by first | omega | (simp; done) | (simp; omega))) ?_))))))))))
              rintro _ w67 ⟨rfl, hB68⟩
              replace hb := hb.trans (hB68.mono hs)
              replace hs := Nat.le_trans hs (hB68.size)
              replace p_l := p_l.below hB68
              replace r_q5 := r_q5.below hB68
              replace r_q9 := r_q9.below hB68
              replace r_5 := r_5.below hB68
              replace r_76 := r_76.below hB68
              replace r_b54 := r_b54.below hB68
              replace r_v63 := r_v63.below hB68
              refine L_mv (L_run (S ((writeF l).1)) (by kernel_rfl) (by kernel_rfl) (L_run (.int .i64 ((writeF l).2)) (by kernel_rfl) (by kernel_rfl) (L_as (L_as (L_nil (thenQ_normal (W_seq (W_region (L_mv (L_mv (L_call 35 [q5, q9] (by kernel_rfl) (by kernel_rfl) (c_furrowlaw05_same q5 ((classesF s).1) q9 ((classesF s).1) _ r_q5.rd r_q9.rd (by first | omega | (simp; done) | (simp; omega))) ?_)))))))))))
              rintro _ w70 ⟨rfl, hB71⟩
              replace hb := hb.trans (hB71.mono hs)
              replace hs := Nat.le_trans hs (hB71.size)
              replace p_l := p_l.below hB71
              replace r_q5 := r_q5.below hB71
              replace r_q9 := r_q9.below hB71
              replace r_5 := r_5.below hB71
              replace r_76 := r_76.below hB71
              replace r_b54 := r_b54.below hB71
              replace r_v63 := r_v63.below hB71
              refine put_split (decide (((classesF s).1) = ((classesF s).1))) ?_ ?_
              · intro h73
                refine L_mv (L_want (by kernel_rfl) (L_mv (L_want (by kernel_rfl) (L_len 49 34 (xs).length v_5 rfl Try.underlying49 (r_5.rd).len (by kernel_rfl) (L_want (by kernel_rfl) (L_mv (L_want (by kernel_rfl) (L_len 49 34 ((classesF s).1).length q9 rfl Try.underlying49 (r_q9.rd).len (by kernel_rfl) (L_want (by kernel_rfl) (L_addN (((classesF s).1).length) 40 (by omega) (by kernel_rfl) (by kernel_rfl) (L_want (by kernel_rfl) (L_cmp .i64 (((xs).length : Nat) : Int) (((((classesF s).1).length + 40) : Nat) : Int) ((xs).length = (((classesF s).1).length + 40)) rfl (cmpN_eq ((xs).length) (((classesF s).1).length + 40)) (by kernel_rfl) (by kernel_rfl) ?_ ?_))))))))))))
                · intro h74
                  replace h74 : (xs).length = (((classesF s).1).length + 40) := by omega
                  refine L_pickT (by kernel_rfl) (L_mv (L_want (by kernel_rfl) (L_mv (L_want (by kernel_rfl) (L_mv (L_want (by kernel_rfl) (L_seq ((writeF (List.take ((l).length) ((([] : List (Int)) ++ l) ++ ([77, 78] : List (Int))))).1) ((writeF l).1) rfl (by kernel_rfl) (by kernel_rfl) ?_ ?_)))))))
                  · intro h75
                    refine L_pickT (by kernel_rfl) (L_mv (L_want (by kernel_rfl) (L_mv (L_want (by kernel_rfl) (L_mv (L_want (by kernel_rfl) (L_cmp .i64 ((writeF (List.take ((l).length) ((([] : List (Int)) ++ l) ++ ([77, 78] : List (Int))))).2) ((writeF l).2) ((writeF (List.take ((l).length) ((([] : List (Int)) ++ l) ++ ([77, 78] : List (Int))))).2 = (writeF l).2) rfl (cmp_eq ((writeF (List.take ((l).length) ((([] : List (Int)) ++ l) ++ ([77, 78] : List (Int))))).2) ((writeF l).2)) (by kernel_rfl) (by kernel_rfl) ?_ ?_)))))))
                    · intro h76
                      replace h76 : (writeF (List.take ((l).length) ((([] : List (Int)) ++ l) ++ ([77, 78] : List (Int))))).2 = (writeF l).2 := by omega
                      refine L_pickT (by kernel_rfl) (L_mv (L_want (by kernel_rfl) (L_mv (L_want (by kernel_rfl) (L_mv (L_want (by kernel_rfl) (L_len 49 34 (l).length v_l rfl Try.underlying49 (p_l).len (by kernel_rfl) (L_want (by kernel_rfl) (L_slto el49 v57 ((([] : List (Int)) ++ l) ++ ([77, 78] : List (Int))) ((l).length) r_76 (fun _ => rfl) (by first | omega | (simp; done) | (simp; omega)) (by kernel_rfl) ⟨.i64, by kernel_rfl⟩ ?_)))))))))
                      intro v77 r_v78
                      refine L_want (by kernel_rfl) (L_mv (L_want (by kernel_rfl) (L_call 35 [v77, v_l] (by kernel_rfl) (by kernel_rfl) (c_furrowlaw05_same v77 (List.take ((l).length) ((([] : List (Int)) ++ l) ++ ([77, 78] : List (Int)))) v_l l _ r_v78 p_l (by first | omega | (simp; done) | (simp; omega))) ?_)))
                      rintro _ w79 ⟨rfl, hB80⟩
                      replace hb := hb.trans (hB80.mono hs)
                      replace hs := Nat.le_trans hs (hB80.size)
                      replace p_l := p_l.below hB80
                      replace r_q5 := r_q5.below hB80
                      replace r_q9 := r_q9.below hB80
                      replace r_5 := r_5.below hB80
                      replace r_76 := r_76.below hB80
                      replace r_b54 := r_b54.below hB80
                      replace r_v63 := r_v63.below hB80
                      replace r_v78 := r_v78.below hB80
                      refine put_split (decide ((List.take ((l).length) ((([] : List (Int)) ++ l) ++ ([77, 78] : List (Int)))) = l)) ?_ ?_
                      · intro h82
                        refine L_pickT (by kernel_rfl) (L_mv (L_want (by kernel_rfl) (L_mv (L_want (by kernel_rfl) (L_mv (L_want (by kernel_rfl) (L_len 49 34 (l).length v_l rfl Try.underlying49 (p_l).len (by kernel_rfl) (L_want (by kernel_rfl) ?_))))))))
                        have hz := get_some ((([] : List (Int)) ++ l) ++ ([77, 78] : List (Int))) ((l).length) (by first | omega | (simp; done) | (simp; omega)); obtain ⟨x83, hx84⟩ := hz
                        have hz := (r_76.rd).at (k := 1) (fun _ => rfl) hx84
                        obtain ⟨g85, off86, hl87, hc88⟩ := hz
                        refine L_ixaddr (k := .i64) v57 ((l).length) _ g85 off86 el49 hl87 (by first | omega | (simp; done) | (simp; omega)) (by kernel_rfl) (by kernel_rfl) (L_want (by kernel_rfl) (L_load g85 (off86 + ((l).length) * 1) (.int .u8 x83) (by kernel_rfl) (by kernel_rfl) (hc88 0 _ rfl) (L_want (by kernel_rfl) (L_cmp .u8 x83 77 (x83 = 77) rfl (cmp_eq x83 77) (by kernel_rfl) (by kernel_rfl) ?_ ?_))))
                        · intro h89
                          replace h89 : x83 = 77 := by omega
                          refine L_pickT (by kernel_rfl) (L_mv (L_want (by kernel_rfl) (L_mv (L_want (by kernel_rfl) (L_mv (L_want (by kernel_rfl) (L_len 49 34 (l).length v_l rfl Try.underlying49 (p_l).len (by kernel_rfl) (L_want (by kernel_rfl) (L_addN ((l).length) 1 (by omega) (by kernel_rfl) (by kernel_rfl) (L_want (by kernel_rfl) ?_))))))))))
                          have hz := get_some ((([] : List (Int)) ++ l) ++ ([77, 78] : List (Int))) ((l).length + 1) (by first | omega | (simp; done) | (simp; omega)); obtain ⟨x90, hx91⟩ := hz
                          have hz := (r_76.rd).at (k := 1) (fun _ => rfl) hx91
                          obtain ⟨g92, off93, hl94, hc95⟩ := hz
                          refine L_ixaddr (k := .i64) v57 ((l).length + 1) _ g92 off93 el49 hl94 (by first | omega | (simp; done) | (simp; omega)) (by kernel_rfl) (by kernel_rfl) (L_want (by kernel_rfl) (L_load g92 (off93 + ((l).length + 1) * 1) (.int .u8 x90) (by kernel_rfl) (by kernel_rfl) (hc95 0 _ rfl) (L_want (by kernel_rfl) (L_cmp .u8 x90 78 (x90 = 78) rfl (cmp_eq x90 78) (by kernel_rfl) (by kernel_rfl) ?_ ?_))))
                          · intro h96
                            replace h96 : x90 = 78 := by omega
                            refine L_pickT (by kernel_rfl) (L_mv (L_want (by kernel_rfl) (L_call 15 [] (by kernel_rfl) (by kernel_rfl) (c_furrowlaw05_awake  _ ) ?_)))
                            rintro _ w97 ⟨rfl, hB98⟩
                            replace hb := hb.trans (hB98.mono hs)
                            replace hs := Nat.le_trans hs (hB98.size)
                            replace p_l := p_l.below hB98
                            replace r_q5 := r_q5.below hB98
                            replace r_q9 := r_q9.below hB98
                            replace r_5 := r_5.below hB98
                            replace r_76 := r_76.below hB98
                            replace r_b54 := r_b54.below hB98
                            replace r_v63 := r_v63.below hB98
                            replace r_v78 := r_v78.below hB98
                            refine L_pickT (by kernel_rfl) (L_as (L_nil (thenQ_normal (W_ret ?_))))
                            refine end_ret [.tmp 4] [(.bool true)] rfl hds ⟨by kernel_rfl, trivial⟩ ?_
                            have e0 : true = true := by first | rfl | (exfalso; omega) | (exfalso; simp_all; done)
                            exact ⟨congrArg Value.bool e0, hb⟩
                          · intro h100
                            replace h100 : x90 ≠ 78 := by omega
                            refine L_pickT (by kernel_rfl) (L_mv (L_skip (by kernel_rfl) (L_pickF (by kernel_rfl) (L_as (L_nil (thenQ_normal (W_ret ?_)))))))
                            refine end_ret [.tmp 4] [(.bool false)] rfl hds ⟨by kernel_rfl, trivial⟩ ?_
                            have e0 : false = true := by first | rfl | (exfalso; omega) | (exfalso; simp_all; done)
                            exact ⟨congrArg Value.bool e0, hb⟩
                        · intro h101
                          replace h101 : x83 ≠ 77 := by omega
                          refine L_pickT (by kernel_rfl) (L_mv (L_skip (by kernel_rfl) (L_skip (by kernel_rfl) (L_skip (by kernel_rfl) (L_skip (by kernel_rfl) (L_skip (by kernel_rfl) (L_skip (by kernel_rfl) (L_skip (by kernel_rfl) (L_pickF (by kernel_rfl) (L_mv (L_skip (by kernel_rfl) (L_pickF (by kernel_rfl) (L_as (L_nil (thenQ_normal (W_ret ?_))))))))))))))))
                          refine end_ret [.tmp 4] [(.bool false)] rfl hds ⟨by kernel_rfl, trivial⟩ ?_
                          have e0 : false = true := by first | rfl | (exfalso; omega) | (exfalso; simp_all; done)
                          exact ⟨congrArg Value.bool e0, hb⟩
                      · intro h102
                        refine L_pickT (by kernel_rfl) (L_mv (L_skip (by kernel_rfl) (L_skip (by kernel_rfl) (L_skip (by kernel_rfl) (L_skip (by kernel_rfl) (L_skip (by kernel_rfl) (L_skip (by kernel_rfl) (L_pickF (by kernel_rfl) (L_mv (L_skip (by kernel_rfl) (L_skip (by kernel_rfl) (L_skip (by kernel_rfl) (L_skip (by kernel_rfl) (L_skip (by kernel_rfl) (L_skip (by kernel_rfl) (L_skip (by kernel_rfl) (L_pickF (by kernel_rfl) (L_mv (L_skip (by kernel_rfl) (L_pickF (by kernel_rfl) (L_as (L_nil (thenQ_normal (W_ret ?_))))))))))))))))))))))))
                        refine end_ret [.tmp 4] [(.bool false)] rfl hds ⟨by kernel_rfl, trivial⟩ ?_
                        have e0 : false = true := by first | rfl | (exfalso; omega) | (exfalso; simp_all; done)
                        exact ⟨congrArg Value.bool e0, hb⟩
                    · intro h103
                      replace h103 : (writeF (List.take ((l).length) ((([] : List (Int)) ++ l) ++ ([77, 78] : List (Int))))).2 ≠ (writeF l).2 := by omega
                      refine L_pickT (by kernel_rfl) (L_mv (L_skip (by kernel_rfl) (L_skip (by kernel_rfl) (L_skip (by kernel_rfl) (L_skip (by kernel_rfl) (L_skip (by kernel_rfl) (L_skip (by kernel_rfl) (L_pickF (by kernel_rfl) (L_mv (L_skip (by kernel_rfl) (L_skip (by kernel_rfl) (L_skip (by kernel_rfl) (L_skip (by kernel_rfl) (L_skip (by kernel_rfl) (L_skip (by kernel_rfl) (L_pickF (by kernel_rfl) (L_mv (L_skip (by kernel_rfl) (L_skip (by kernel_rfl) (L_skip (by kernel_rfl) (L_skip (by kernel_rfl) (L_skip (by kernel_rfl) (L_skip (by kernel_rfl) (L_skip (by kernel_rfl) (L_pickF (by kernel_rfl) (L_mv (L_skip (by kernel_rfl) (L_pickF (by kernel_rfl) (L_as (L_nil (thenQ_normal (W_ret ?_))))))))))))))))))))))))))))))))
                      refine end_ret [.tmp 4] [(.bool false)] rfl hds ⟨by kernel_rfl, trivial⟩ ?_
                      have e0 : false = true := by first | rfl | (exfalso; omega) | (exfalso; simp_all; done)
                      exact ⟨congrArg Value.bool e0, hb⟩
                  · intro h104
                    refine L_pickT (by kernel_rfl) (L_mv (L_skip (by kernel_rfl) (L_skip (by kernel_rfl) (L_skip (by kernel_rfl) (L_pickF (by kernel_rfl) (L_mv (L_skip (by kernel_rfl) (L_skip (by kernel_rfl) (L_skip (by kernel_rfl) (L_skip (by kernel_rfl) (L_skip (by kernel_rfl) (L_skip (by kernel_rfl) (L_pickF (by kernel_rfl) (L_mv (L_skip (by kernel_rfl) (L_skip (by kernel_rfl) (L_skip (by kernel_rfl) (L_skip (by kernel_rfl) (L_skip (by kernel_rfl) (L_skip (by kernel_rfl) (L_pickF (by kernel_rfl) (L_mv (L_skip (by kernel_rfl) (L_skip (by kernel_rfl) (L_skip (by kernel_rfl) (L_skip (by kernel_rfl) (L_skip (by kernel_rfl) (L_skip (by kernel_rfl) (L_skip (by kernel_rfl) (L_pickF (by kernel_rfl) (L_mv (L_skip (by kernel_rfl) (L_pickF (by kernel_rfl) (L_as (L_nil (thenQ_normal (W_ret ?_)))))))))))))))))))))))))))))))))))))
                    refine end_ret [.tmp 4] [(.bool false)] rfl hds ⟨by kernel_rfl, trivial⟩ ?_
                    have e0 : false = true := by first | rfl | (exfalso; omega) | (exfalso; simp_all; done)
                    exact ⟨congrArg Value.bool e0, hb⟩
                · intro h105
                  replace h105 : (xs).length ≠ (((classesF s).1).length + 40) := by omega
                  refine L_pickT (by kernel_rfl) (L_mv (L_skip (by kernel_rfl) (L_skip (by kernel_rfl) (L_skip (by kernel_rfl) (L_pickF (by kernel_rfl) (L_mv (L_skip (by kernel_rfl) (L_skip (by kernel_rfl) (L_skip (by kernel_rfl) (L_pickF (by kernel_rfl) (L_mv (L_skip (by kernel_rfl) (L_skip (by kernel_rfl) (L_skip (by kernel_rfl) (L_skip (by kernel_rfl) (L_skip (by kernel_rfl) (L_skip (by kernel_rfl) (L_pickF (by kernel_rfl) (L_mv (L_skip (by kernel_rfl) (L_skip (by kernel_rfl) (L_skip (by kernel_rfl) (L_skip (by kernel_rfl) (L_skip (by kernel_rfl) (L_skip (by kernel_rfl) (L_pickF (by kernel_rfl) (L_mv (L_skip (by kernel_rfl) (L_skip (by kernel_rfl) (L_skip (by kernel_rfl) (L_skip (by kernel_rfl) (L_skip (by kernel_rfl) (L_skip (by kernel_rfl) (L_skip (by kernel_rfl) (L_pickF (by kernel_rfl) (L_mv (L_skip (by kernel_rfl) (L_pickF (by kernel_rfl) (L_as (L_nil (thenQ_normal (W_ret ?_))))))))))))))))))))))))))))))))))))))))))
                  refine end_ret [.tmp 4] [(.bool false)] rfl hds ⟨by kernel_rfl, trivial⟩ ?_
                  have e0 : false = true := by first | rfl | (exfalso; omega) | (exfalso; simp_all; done)
                  exact ⟨congrArg Value.bool e0, hb⟩
              · intro h106
                refine L_mv (L_skip (by kernel_rfl) (L_skip (by kernel_rfl) (L_skip (by kernel_rfl) (L_skip (by kernel_rfl) (L_skip (by kernel_rfl) (L_skip (by kernel_rfl) (L_pickF (by kernel_rfl) (L_mv (L_skip (by kernel_rfl) (L_skip (by kernel_rfl) (L_skip (by kernel_rfl) (L_pickF (by kernel_rfl) (L_mv (L_skip (by kernel_rfl) (L_skip (by kernel_rfl) (L_skip (by kernel_rfl) (L_pickF (by kernel_rfl) (L_mv (L_skip (by kernel_rfl) (L_skip (by kernel_rfl) (L_skip (by kernel_rfl) (L_skip (by kernel_rfl) (L_skip (by kernel_rfl) (L_skip (by kernel_rfl) (L_pickF (by kernel_rfl) (L_mv (L_skip (by kernel_rfl) (L_skip (by kernel_rfl) (L_skip (by kernel_rfl) (L_skip (by kernel_rfl) (L_skip (by kernel_rfl) (L_skip (by kernel_rfl) (L_pickF (by kernel_rfl) (L_mv (L_skip (by kernel_rfl) (L_skip (by kernel_rfl) (L_skip (by kernel_rfl) (L_skip (by kernel_rfl) (L_skip (by kernel_rfl) (L_skip (by kernel_rfl) (L_skip (by kernel_rfl) (L_pickF (by kernel_rfl) (L_mv (L_skip (by kernel_rfl) (L_pickF (by kernel_rfl) (L_as (L_nil (thenQ_normal (W_ret ?_)))))))))))))))))))))))))))))))))))))))))))))))))
                refine end_ret [.tmp 4] [(.bool false)] rfl hds ⟨by kernel_rfl, trivial⟩ ?_
                have e0 : false = true := by first | rfl | (exfalso; omega) | (exfalso; simp_all; done)
                exact ⟨congrArg Value.bool e0, hb⟩
    · intro h107
      rw [h16] at h107; cases h107
  · intro h108
    refine L_not false (by kernel_rfl) (L_mv (L_skip (by kernel_rfl) (L_skip (by kernel_rfl) (L_skip (by kernel_rfl) (L_skip (by kernel_rfl) (L_pickT (by kernel_rfl) (L_mv (L_skip (by kernel_rfl) (L_skip (by kernel_rfl) (L_skip (by kernel_rfl) (L_pickT (by kernel_rfl) (L_mv (L_skip (by kernel_rfl) (L_skip (by kernel_rfl) (L_skip (by kernel_rfl) (L_pickT (by kernel_rfl) (L_nil (thenQ_normal (W_true (by kernel_rfl) (W_seq (W_region (L_as (L_nil (thenQ_normal (W_ret (thenQ_ret ?_))))))))))))))))))))))))))
    refine end_ret [.tmp 4] [(.bool false)] rfl rfl ⟨by kernel_rfl, trivial⟩ ?_
    have e0 : false = true := by first | rfl | (exfalso; omega) | (exfalso; simp_all; done)
    exact ⟨congrArg Value.bool e0, hb⟩

end Go.Proofs.Ytbknjmjflfkhkaa
