/- Walks, written by my program walk.py out of the specification words.py: each theorem says what one function returns and that it leaves memory as it was. -/
import Derived.Test.YtbknjmjflfkhkaaPUtf
import Derived.Test.YtbknjmjflfkhkaaFKg
import Derived.Test.YtbknjmjflfkhkaaProg
namespace Go.Proofs.Ytbknjmjflfkhkaa
open Go Go.RowKit Go.FK
set_option linter.unusedVariables false

theorem el64 : Elem Try.prog 64 21 1 4 := ⟨Try.underlying64, by kernel_rfl, rfl⟩
theorem el43 : Elem Try.prog 43 9 1 16 := ⟨Try.underlying43, by kernel_rfl, rfl⟩
theorem el83 : Elem Try.prog 83 3 1 8 := ⟨Try.underlying83, by kernel_rfl, rfl⟩
theorem el56 : Elem Try.prog 56 5 1 1 := ⟨Try.underlying56, by kernel_rfl, rfl⟩
theorem el49 : Elem Try.prog 49 34 1 1 := ⟨Try.underlying49, by kernel_rfl, rfl⟩
theorem el59 : Elem Try.prog 59 62 4 32 := ⟨Try.underlying59, by kernel_rfl, rfl⟩
set_option maxHeartbeats 4000000 in
set_option maxRecDepth 100000 in
theorem c_words_Blank (r : Int) (w : World) :
    Calls Try.prog 13 #[(.int .i32 r)] w (Ret fun v w' => v = (.bool (blankB r)) ∧ Below w.heap.size w w') := by
  refine enter (args := [(.int .i32 r)]) Try.func13 rfl (by kernel_rfl : _ = 23) (by kernel_rfl) ?_
  have hb := Below.refl w.heap.size w
  have hs : w.heap.size ≤ w.heap.size := Nat.le_refl _
  refine W_seq (W_region (L_as (L_nil (thenQ_normal (W_seq (W_seq (W_region (L_mv (L_nil (thenQ_normal (W_block (W_seq (W_seq (W_region (L_cmp .i32 r 9 (r = 9) rfl (cmp_eq r 9) (by kernel_rfl) (by kernel_rfl) ?_ ?_)))))))))))))))
  · intro h1
    replace h1 : r = 9 := by omega
    refine L_as (L_nil (thenQ_normal (W_true (by kernel_rfl) (W_skip (thenQ_normal (W_true (by kernel_rfl) (W_seq (W_region (L_as (L_nil (thenQ_normal (W_ret (blkQ_ret (thenQ_ret ?_))))))))))))))
    refine end_ret [.tmp 2] [(.bool true)] rfl rfl ⟨by kernel_rfl, trivial⟩ ?_
    have e0 : true = blankB r := by simp only [blankB]; simp [*] <;> omega
    exact ⟨congrArg Value.bool e0, hb⟩
  · intro h2
    replace h2 : r ≠ 9 := by omega
    refine L_as (L_nil (thenQ_normal (W_false (by kernel_rfl) (W_seq (W_region (L_cmp .i32 r 11 (r = 11) rfl (cmp_eq r 11) (by kernel_rfl) (by kernel_rfl) ?_ ?_))))))
    · intro h3
      replace h3 : r = 11 := by omega
      refine L_as (L_nil (thenQ_normal (W_true (by kernel_rfl) (W_skip (thenQ_normal (W_true (by kernel_rfl) (W_seq (W_region (L_as (L_nil (thenQ_normal (W_ret (blkQ_ret (thenQ_ret ?_))))))))))))))
      refine end_ret [.tmp 2] [(.bool true)] rfl rfl ⟨by kernel_rfl, trivial⟩ ?_
      have e0 : true = blankB r := by simp only [blankB]; simp [*] <;> omega
      exact ⟨congrArg Value.bool e0, hb⟩
    · intro h4
      replace h4 : r ≠ 11 := by omega
      refine L_as (L_nil (thenQ_normal (W_false (by kernel_rfl) (W_seq (W_region (L_cmp .i32 r 12 (r = 12) rfl (cmp_eq r 12) (by kernel_rfl) (by kernel_rfl) ?_ ?_))))))
      · intro h5
        replace h5 : r = 12 := by omega
        refine L_as (L_nil (thenQ_normal (W_true (by kernel_rfl) (W_skip (thenQ_normal (W_true (by kernel_rfl) (W_seq (W_region (L_as (L_nil (thenQ_normal (W_ret (blkQ_ret (thenQ_ret ?_))))))))))))))
        refine end_ret [.tmp 2] [(.bool true)] rfl rfl ⟨by kernel_rfl, trivial⟩ ?_
        have e0 : true = blankB r := by simp only [blankB]; simp [*] <;> omega
        exact ⟨congrArg Value.bool e0, hb⟩
      · intro h6
        replace h6 : r ≠ 12 := by omega
        refine L_as (L_nil (thenQ_normal (W_false (by kernel_rfl) (W_seq (W_region (L_cmp .i32 r 32 (r = 32) rfl (cmp_eq r 32) (by kernel_rfl) (by kernel_rfl) ?_ ?_))))))
        · intro h7
          replace h7 : r = 32 := by omega
          refine L_as (L_nil (thenQ_normal (W_true (by kernel_rfl) (W_skip (thenQ_normal (W_true (by kernel_rfl) (W_seq (W_region (L_as (L_nil (thenQ_normal (W_ret (blkQ_ret (thenQ_ret ?_))))))))))))))
          refine end_ret [.tmp 2] [(.bool true)] rfl rfl ⟨by kernel_rfl, trivial⟩ ?_
          have e0 : true = blankB r := by simp only [blankB]; simp [*] <;> omega
          exact ⟨congrArg Value.bool e0, hb⟩
        · intro h8
          replace h8 : r ≠ 32 := by omega
          refine L_as (L_nil (thenQ_normal (W_false (by kernel_rfl) (W_seq (W_region (L_cmp .i32 r 133 (r = 133) rfl (cmp_eq r 133) (by kernel_rfl) (by kernel_rfl) ?_ ?_))))))
          · intro h9
            replace h9 : r = 133 := by omega
            refine L_as (L_nil (thenQ_normal (W_true (by kernel_rfl) (W_skip (thenQ_normal (W_true (by kernel_rfl) (W_seq (W_region (L_as (L_nil (thenQ_normal (W_ret (blkQ_ret (thenQ_ret ?_))))))))))))))
            refine end_ret [.tmp 2] [(.bool true)] rfl rfl ⟨by kernel_rfl, trivial⟩ ?_
            have e0 : true = blankB r := by simp only [blankB]; simp [*] <;> omega
            exact ⟨congrArg Value.bool e0, hb⟩
          · intro h10
            replace h10 : r ≠ 133 := by omega
            refine L_as (L_nil (thenQ_normal (W_false (by kernel_rfl) (W_seq (W_region (L_cmp .i32 r 160 (r = 160) rfl (cmp_eq r 160) (by kernel_rfl) (by kernel_rfl) ?_ ?_))))))
            · intro h11
              replace h11 : r = 160 := by omega
              refine L_as (L_nil (thenQ_normal (W_true (by kernel_rfl) (W_skip (thenQ_normal (W_true (by kernel_rfl) (W_seq (W_region (L_as (L_nil (thenQ_normal (W_ret (blkQ_ret (thenQ_ret ?_))))))))))))))
              refine end_ret [.tmp 2] [(.bool true)] rfl rfl ⟨by kernel_rfl, trivial⟩ ?_
              have e0 : true = blankB r := by simp only [blankB]; simp [*] <;> omega
              exact ⟨congrArg Value.bool e0, hb⟩
            · intro h12
              replace h12 : r ≠ 160 := by omega
              refine L_as (L_nil (thenQ_normal (W_false (by kernel_rfl) (W_seq (W_region (L_cmp .i32 r 5760 (r = 5760) rfl (cmp_eq r 5760) (by kernel_rfl) (by kernel_rfl) ?_ ?_))))))
              · intro h13
                replace h13 : r = 5760 := by omega
                refine L_as (L_nil (thenQ_normal (W_true (by kernel_rfl) (W_skip (thenQ_normal (W_true (by kernel_rfl) (W_seq (W_region (L_as (L_nil (thenQ_normal (W_ret (blkQ_ret (thenQ_ret ?_))))))))))))))
                refine end_ret [.tmp 2] [(.bool true)] rfl rfl ⟨by kernel_rfl, trivial⟩ ?_
                have e0 : true = blankB r := by simp only [blankB]; simp [*] <;> omega
                exact ⟨congrArg Value.bool e0, hb⟩
              · intro h14
                replace h14 : r ≠ 5760 := by omega
                refine L_as (L_nil (thenQ_normal (W_false (by kernel_rfl) (W_seq (W_region (L_cmp .i32 r 8232 (r = 8232) rfl (cmp_eq r 8232) (by kernel_rfl) (by kernel_rfl) ?_ ?_))))))
                · intro h15
                  replace h15 : r = 8232 := by omega
                  refine L_as (L_nil (thenQ_normal (W_true (by kernel_rfl) (W_skip (thenQ_normal (W_true (by kernel_rfl) (W_seq (W_region (L_as (L_nil (thenQ_normal (W_ret (blkQ_ret (thenQ_ret ?_))))))))))))))
                  refine end_ret [.tmp 2] [(.bool true)] rfl rfl ⟨by kernel_rfl, trivial⟩ ?_
                  have e0 : true = blankB r := by simp only [blankB]; simp [*] <;> omega
                  exact ⟨congrArg Value.bool e0, hb⟩
                · intro h16
                  replace h16 : r ≠ 8232 := by omega
                  refine L_as (L_nil (thenQ_normal (W_false (by kernel_rfl) (W_seq (W_region (L_cmp .i32 r 8233 (r = 8233) rfl (cmp_eq r 8233) (by kernel_rfl) (by kernel_rfl) ?_ ?_))))))
                  · intro h17
                    replace h17 : r = 8233 := by omega
                    refine L_as (L_nil (thenQ_normal (W_true (by kernel_rfl) (W_skip (thenQ_normal (W_true (by kernel_rfl) (W_seq (W_region (L_as (L_nil (thenQ_normal (W_ret (blkQ_ret (thenQ_ret ?_))))))))))))))
                    refine end_ret [.tmp 2] [(.bool true)] rfl rfl ⟨by kernel_rfl, trivial⟩ ?_
                    have e0 : true = blankB r := by simp only [blankB]; simp [*] <;> omega
                    exact ⟨congrArg Value.bool e0, hb⟩
                  · intro h18
                    replace h18 : r ≠ 8233 := by omega
                    refine L_as (L_nil (thenQ_normal (W_false (by kernel_rfl) (W_seq (W_region (L_cmp .i32 r 8239 (r = 8239) rfl (cmp_eq r 8239) (by kernel_rfl) (by kernel_rfl) ?_ ?_))))))
                    · intro h19
                      replace h19 : r = 8239 := by omega
                      refine L_as (L_nil (thenQ_normal (W_true (by kernel_rfl) (W_skip (thenQ_normal (W_true (by kernel_rfl) (W_seq (W_region (L_as (L_nil (thenQ_normal (W_ret (blkQ_ret (thenQ_ret ?_))))))))))))))
                      refine end_ret [.tmp 2] [(.bool true)] rfl rfl ⟨by kernel_rfl, trivial⟩ ?_
                      have e0 : true = blankB r := by simp only [blankB]; simp [*] <;> omega
                      exact ⟨congrArg Value.bool e0, hb⟩
                    · intro h20
                      replace h20 : r ≠ 8239 := by omega
                      refine L_as (L_nil (thenQ_normal (W_false (by kernel_rfl) (W_seq (W_region (L_cmp .i32 r 8287 (r = 8287) rfl (cmp_eq r 8287) (by kernel_rfl) (by kernel_rfl) ?_ ?_))))))
                      · intro h21
                        replace h21 : r = 8287 := by omega
                        refine L_as (L_nil (thenQ_normal (W_true (by kernel_rfl) (W_skip (thenQ_normal (W_true (by kernel_rfl) (W_seq (W_region (L_as (L_nil (thenQ_normal (W_ret (blkQ_ret (thenQ_ret ?_))))))))))))))
                        refine end_ret [.tmp 2] [(.bool true)] rfl rfl ⟨by kernel_rfl, trivial⟩ ?_
                        have e0 : true = blankB r := by simp only [blankB]; simp [*] <;> omega
                        exact ⟨congrArg Value.bool e0, hb⟩
                      · intro h22
                        replace h22 : r ≠ 8287 := by omega
                        refine L_as (L_nil (thenQ_normal (W_false (by kernel_rfl) (W_region (L_cmp .i32 r 12288 (r = 12288) rfl (cmp_eq r 12288) (by kernel_rfl) (by kernel_rfl) ?_ ?_)))))
                        · intro h23
                          replace h23 : r = 12288 := by omega
                          refine L_as (L_nil (thenQ_normal (W_true (by kernel_rfl) (W_seq (W_region (L_as (L_nil (thenQ_normal (W_ret (blkQ_ret (thenQ_ret ?_)))))))))))
                          refine end_ret [.tmp 2] [(.bool true)] rfl rfl ⟨by kernel_rfl, trivial⟩ ?_
                          have e0 : true = blankB r := by simp only [blankB]; simp [*] <;> omega
                          exact ⟨congrArg Value.bool e0, hb⟩
                        · intro h24
                          replace h24 : r ≠ 12288 := by omega
                          refine L_as (L_nil (thenQ_normal (W_false (by kernel_rfl) (W_skip (blkQ_normal (thenQ_normal (W_seq (W_region (L_mv (L_cmp .i32 r 8192 (8192 ≤ r) rfl (cmp_ge r 8192) (by kernel_rfl) (by kernel_rfl) ?_ ?_))))))))))
                          · intro h25
                            replace h25 : 8192 ≤ r := by omega
                            refine L_mv (L_want (by kernel_rfl) (L_mv (L_want (by kernel_rfl) (L_cmp .i32 r 8202 (r ≤ 8202) rfl (cmp_le r 8202) (by kernel_rfl) (by kernel_rfl) ?_ ?_))))
                            · intro h26
                              replace h26 : r ≤ 8202 := by omega
                              refine L_pickT (by kernel_rfl) (L_as (L_nil (thenQ_normal (W_ret ?_))))
                              refine end_ret [.tmp 2] [(.bool true)] rfl rfl ⟨by kernel_rfl, trivial⟩ ?_
                              have e0 : true = blankB r := by simp only [blankB]; simp [*] <;> omega
                              exact ⟨congrArg Value.bool e0, hb⟩
                            · intro h27
                              replace h27 : 8202 < r := by omega
                              refine L_pickT (by kernel_rfl) (L_as (L_nil (thenQ_normal (W_ret ?_))))
                              refine end_ret [.tmp 2] [(.bool false)] rfl rfl ⟨by kernel_rfl, trivial⟩ ?_
                              have e0 : false = blankB r := by simp only [blankB]; simp [*] <;> omega
                              exact ⟨congrArg Value.bool e0, hb⟩
                          · intro h28
                            replace h28 : r < 8192 := by omega
                            refine L_mv (L_skip (by kernel_rfl) (L_skip (by kernel_rfl) (L_pickF (by kernel_rfl) (L_as (L_nil (thenQ_normal (W_ret ?_)))))))
                            refine end_ret [.tmp 2] [(.bool false)] rfl rfl ⟨by kernel_rfl, trivial⟩ ?_
                            have e0 : false = blankB r := by simp only [blankB]; simp [*] <;> omega
                            exact ⟨congrArg Value.bool e0, hb⟩

set_option maxHeartbeats 4000000 in
set_option maxRecDepth 100000 in
theorem c_furrowref05_Blank (r : Int) (w : World) :
    Calls Try.prog 14 #[(.int .i32 r)] w (Ret fun v w' => v = (.bool (blankB r)) ∧ Below w.heap.size w w') := by
  refine enter (args := [(.int .i32 r)]) Try.func14 rfl (by kernel_rfl : _ = 23) (by kernel_rfl) ?_
  have hb := Below.refl w.heap.size w
  have hs : w.heap.size ≤ w.heap.size := Nat.le_refl _
  refine W_seq (W_region (L_as (L_nil (thenQ_normal (W_seq (W_seq (W_region (L_mv (L_nil (thenQ_normal (W_block (W_seq (W_seq (W_region (L_cmp .i32 r 9 (r = 9) rfl (cmp_eq r 9) (by kernel_rfl) (by kernel_rfl) ?_ ?_)))))))))))))))
  · intro h1
    replace h1 : r = 9 := by omega
    refine L_as (L_nil (thenQ_normal (W_true (by kernel_rfl) (W_skip (thenQ_normal (W_true (by kernel_rfl) (W_seq (W_region (L_as (L_nil (thenQ_normal (W_ret (blkQ_ret (thenQ_ret ?_))))))))))))))
    refine end_ret [.tmp 2] [(.bool true)] rfl rfl ⟨by kernel_rfl, trivial⟩ ?_
    have e0 : true = blankB r := by simp only [blankB]; simp [*] <;> omega
    exact ⟨congrArg Value.bool e0, hb⟩
  · intro h2
    replace h2 : r ≠ 9 := by omega
    refine L_as (L_nil (thenQ_normal (W_false (by kernel_rfl) (W_seq (W_region (L_cmp .i32 r 11 (r = 11) rfl (cmp_eq r 11) (by kernel_rfl) (by kernel_rfl) ?_ ?_))))))
    · intro h3
      replace h3 : r = 11 := by omega
      refine L_as (L_nil (thenQ_normal (W_true (by kernel_rfl) (W_skip (thenQ_normal (W_true (by kernel_rfl) (W_seq (W_region (L_as (L_nil (thenQ_normal (W_ret (blkQ_ret (thenQ_ret ?_))))))))))))))
      refine end_ret [.tmp 2] [(.bool true)] rfl rfl ⟨by kernel_rfl, trivial⟩ ?_
      have e0 : true = blankB r := by simp only [blankB]; simp [*] <;> omega
      exact ⟨congrArg Value.bool e0, hb⟩
    · intro h4
      replace h4 : r ≠ 11 := by omega
      refine L_as (L_nil (thenQ_normal (W_false (by kernel_rfl) (W_seq (W_region (L_cmp .i32 r 12 (r = 12) rfl (cmp_eq r 12) (by kernel_rfl) (by kernel_rfl) ?_ ?_))))))
      · intro h5
        replace h5 : r = 12 := by omega
        refine L_as (L_nil (thenQ_normal (W_true (by kernel_rfl) (W_skip (thenQ_normal (W_true (by kernel_rfl) (W_seq (W_region (L_as (L_nil (thenQ_normal (W_ret (blkQ_ret (thenQ_ret ?_))))))))))))))
        refine end_ret [.tmp 2] [(.bool true)] rfl rfl ⟨by kernel_rfl, trivial⟩ ?_
        have e0 : true = blankB r := by simp only [blankB]; simp [*] <;> omega
        exact ⟨congrArg Value.bool e0, hb⟩
      · intro h6
        replace h6 : r ≠ 12 := by omega
        refine L_as (L_nil (thenQ_normal (W_false (by kernel_rfl) (W_seq (W_region (L_cmp .i32 r 32 (r = 32) rfl (cmp_eq r 32) (by kernel_rfl) (by kernel_rfl) ?_ ?_))))))
        · intro h7
          replace h7 : r = 32 := by omega
          refine L_as (L_nil (thenQ_normal (W_true (by kernel_rfl) (W_skip (thenQ_normal (W_true (by kernel_rfl) (W_seq (W_region (L_as (L_nil (thenQ_normal (W_ret (blkQ_ret (thenQ_ret ?_))))))))))))))
          refine end_ret [.tmp 2] [(.bool true)] rfl rfl ⟨by kernel_rfl, trivial⟩ ?_
          have e0 : true = blankB r := by simp only [blankB]; simp [*] <;> omega
          exact ⟨congrArg Value.bool e0, hb⟩
        · intro h8
          replace h8 : r ≠ 32 := by omega
          refine L_as (L_nil (thenQ_normal (W_false (by kernel_rfl) (W_seq (W_region (L_cmp .i32 r 133 (r = 133) rfl (cmp_eq r 133) (by kernel_rfl) (by kernel_rfl) ?_ ?_))))))
          · intro h9
            replace h9 : r = 133 := by omega
            refine L_as (L_nil (thenQ_normal (W_true (by kernel_rfl) (W_skip (thenQ_normal (W_true (by kernel_rfl) (W_seq (W_region (L_as (L_nil (thenQ_normal (W_ret (blkQ_ret (thenQ_ret ?_))))))))))))))
            refine end_ret [.tmp 2] [(.bool true)] rfl rfl ⟨by kernel_rfl, trivial⟩ ?_
            have e0 : true = blankB r := by simp only [blankB]; simp [*] <;> omega
            exact ⟨congrArg Value.bool e0, hb⟩
          · intro h10
            replace h10 : r ≠ 133 := by omega
            refine L_as (L_nil (thenQ_normal (W_false (by kernel_rfl) (W_seq (W_region (L_cmp .i32 r 160 (r = 160) rfl (cmp_eq r 160) (by kernel_rfl) (by kernel_rfl) ?_ ?_))))))
            · intro h11
              replace h11 : r = 160 := by omega
              refine L_as (L_nil (thenQ_normal (W_true (by kernel_rfl) (W_skip (thenQ_normal (W_true (by kernel_rfl) (W_seq (W_region (L_as (L_nil (thenQ_normal (W_ret (blkQ_ret (thenQ_ret ?_))))))))))))))
              refine end_ret [.tmp 2] [(.bool true)] rfl rfl ⟨by kernel_rfl, trivial⟩ ?_
              have e0 : true = blankB r := by simp only [blankB]; simp [*] <;> omega
              exact ⟨congrArg Value.bool e0, hb⟩
            · intro h12
              replace h12 : r ≠ 160 := by omega
              refine L_as (L_nil (thenQ_normal (W_false (by kernel_rfl) (W_seq (W_region (L_cmp .i32 r 5760 (r = 5760) rfl (cmp_eq r 5760) (by kernel_rfl) (by kernel_rfl) ?_ ?_))))))
              · intro h13
                replace h13 : r = 5760 := by omega
                refine L_as (L_nil (thenQ_normal (W_true (by kernel_rfl) (W_skip (thenQ_normal (W_true (by kernel_rfl) (W_seq (W_region (L_as (L_nil (thenQ_normal (W_ret (blkQ_ret (thenQ_ret ?_))))))))))))))
                refine end_ret [.tmp 2] [(.bool true)] rfl rfl ⟨by kernel_rfl, trivial⟩ ?_
                have e0 : true = blankB r := by simp only [blankB]; simp [*] <;> omega
                exact ⟨congrArg Value.bool e0, hb⟩
              · intro h14
                replace h14 : r ≠ 5760 := by omega
                refine L_as (L_nil (thenQ_normal (W_false (by kernel_rfl) (W_seq (W_region (L_cmp .i32 r 8232 (r = 8232) rfl (cmp_eq r 8232) (by kernel_rfl) (by kernel_rfl) ?_ ?_))))))
                · intro h15
                  replace h15 : r = 8232 := by omega
                  refine L_as (L_nil (thenQ_normal (W_true (by kernel_rfl) (W_skip (thenQ_normal (W_true (by kernel_rfl) (W_seq (W_region (L_as (L_nil (thenQ_normal (W_ret (blkQ_ret (thenQ_ret ?_))))))))))))))
                  refine end_ret [.tmp 2] [(.bool true)] rfl rfl ⟨by kernel_rfl, trivial⟩ ?_
                  have e0 : true = blankB r := by simp only [blankB]; simp [*] <;> omega
                  exact ⟨congrArg Value.bool e0, hb⟩
                · intro h16
                  replace h16 : r ≠ 8232 := by omega
                  refine L_as (L_nil (thenQ_normal (W_false (by kernel_rfl) (W_seq (W_region (L_cmp .i32 r 8233 (r = 8233) rfl (cmp_eq r 8233) (by kernel_rfl) (by kernel_rfl) ?_ ?_))))))
                  · intro h17
                    replace h17 : r = 8233 := by omega
                    refine L_as (L_nil (thenQ_normal (W_true (by kernel_rfl) (W_skip (thenQ_normal (W_true (by kernel_rfl) (W_seq (W_region (L_as (L_nil (thenQ_normal (W_ret (blkQ_ret (thenQ_ret ?_))))))))))))))
                    refine end_ret [.tmp 2] [(.bool true)] rfl rfl ⟨by kernel_rfl, trivial⟩ ?_
                    have e0 : true = blankB r := by simp only [blankB]; simp [*] <;> omega
                    exact ⟨congrArg Value.bool e0, hb⟩
                  · intro h18
                    replace h18 : r ≠ 8233 := by omega
                    refine L_as (L_nil (thenQ_normal (W_false (by kernel_rfl) (W_seq (W_region (L_cmp .i32 r 8239 (r = 8239) rfl (cmp_eq r 8239) (by kernel_rfl) (by kernel_rfl) ?_ ?_))))))
                    · intro h19
                      replace h19 : r = 8239 := by omega
                      refine L_as (L_nil (thenQ_normal (W_true (by kernel_rfl) (W_skip (thenQ_normal (W_true (by kernel_rfl) (W_seq (W_region (L_as (L_nil (thenQ_normal (W_ret (blkQ_ret (thenQ_ret ?_))))))))))))))
                      refine end_ret [.tmp 2] [(.bool true)] rfl rfl ⟨by kernel_rfl, trivial⟩ ?_
                      have e0 : true = blankB r := by simp only [blankB]; simp [*] <;> omega
                      exact ⟨congrArg Value.bool e0, hb⟩
                    · intro h20
                      replace h20 : r ≠ 8239 := by omega
                      refine L_as (L_nil (thenQ_normal (W_false (by kernel_rfl) (W_seq (W_region (L_cmp .i32 r 8287 (r = 8287) rfl (cmp_eq r 8287) (by kernel_rfl) (by kernel_rfl) ?_ ?_))))))
                      · intro h21
                        replace h21 : r = 8287 := by omega
                        refine L_as (L_nil (thenQ_normal (W_true (by kernel_rfl) (W_skip (thenQ_normal (W_true (by kernel_rfl) (W_seq (W_region (L_as (L_nil (thenQ_normal (W_ret (blkQ_ret (thenQ_ret ?_))))))))))))))
                        refine end_ret [.tmp 2] [(.bool true)] rfl rfl ⟨by kernel_rfl, trivial⟩ ?_
                        have e0 : true = blankB r := by simp only [blankB]; simp [*] <;> omega
                        exact ⟨congrArg Value.bool e0, hb⟩
                      · intro h22
                        replace h22 : r ≠ 8287 := by omega
                        refine L_as (L_nil (thenQ_normal (W_false (by kernel_rfl) (W_region (L_cmp .i32 r 12288 (r = 12288) rfl (cmp_eq r 12288) (by kernel_rfl) (by kernel_rfl) ?_ ?_)))))
                        · intro h23
                          replace h23 : r = 12288 := by omega
                          refine L_as (L_nil (thenQ_normal (W_true (by kernel_rfl) (W_seq (W_region (L_as (L_nil (thenQ_normal (W_ret (blkQ_ret (thenQ_ret ?_)))))))))))
                          refine end_ret [.tmp 2] [(.bool true)] rfl rfl ⟨by kernel_rfl, trivial⟩ ?_
                          have e0 : true = blankB r := by simp only [blankB]; simp [*] <;> omega
                          exact ⟨congrArg Value.bool e0, hb⟩
                        · intro h24
                          replace h24 : r ≠ 12288 := by omega
                          refine L_as (L_nil (thenQ_normal (W_false (by kernel_rfl) (W_skip (blkQ_normal (thenQ_normal (W_seq (W_region (L_mv (L_cmp .i32 r 8192 (8192 ≤ r) rfl (cmp_ge r 8192) (by kernel_rfl) (by kernel_rfl) ?_ ?_))))))))))
                          · intro h25
                            replace h25 : 8192 ≤ r := by omega
                            refine L_mv (L_want (by kernel_rfl) (L_mv (L_want (by kernel_rfl) (L_cmp .i32 r 8202 (r ≤ 8202) rfl (cmp_le r 8202) (by kernel_rfl) (by kernel_rfl) ?_ ?_))))
                            · intro h26
                              replace h26 : r ≤ 8202 := by omega
                              refine L_pickT (by kernel_rfl) (L_as (L_nil (thenQ_normal (W_ret ?_))))
                              refine end_ret [.tmp 2] [(.bool true)] rfl rfl ⟨by kernel_rfl, trivial⟩ ?_
                              have e0 : true = blankB r := by simp only [blankB]; simp [*] <;> omega
                              exact ⟨congrArg Value.bool e0, hb⟩
                            · intro h27
                              replace h27 : 8202 < r := by omega
                              refine L_pickT (by kernel_rfl) (L_as (L_nil (thenQ_normal (W_ret ?_))))
                              refine end_ret [.tmp 2] [(.bool false)] rfl rfl ⟨by kernel_rfl, trivial⟩ ?_
                              have e0 : false = blankB r := by simp only [blankB]; simp [*] <;> omega
                              exact ⟨congrArg Value.bool e0, hb⟩
                          · intro h28
                            replace h28 : r < 8192 := by omega
                            refine L_mv (L_skip (by kernel_rfl) (L_skip (by kernel_rfl) (L_pickF (by kernel_rfl) (L_as (L_nil (thenQ_normal (W_ret ?_)))))))
                            refine end_ret [.tmp 2] [(.bool false)] rfl rfl ⟨by kernel_rfl, trivial⟩ ?_
                            have e0 : false = blankB r := by simp only [blankB]; simp [*] <;> omega
                            exact ⟨congrArg Value.bool e0, hb⟩

set_option maxHeartbeats 4000000 in
set_option maxRecDepth 100000 in
theorem c_utf_Encode (v_l : Value) (l : List (Int)) (w : World) (p_l : Rd w encI32 v_l l) :
    Calls Try.prog 41 #[v_l] w (Ret fun v w' => v = (S (encL l)) ∧ Below w.heap.size w w') := by
  refine enter (args := [v_l]) Try.func41 rfl (by kernel_rfl : _ = 5) (by kernel_rfl) ?_
  have hb := Below.refl w.heap.size w
  have hs : w.heap.size ≤ w.heap.size := Nat.le_refl _
  have in_p_l := p_l
  refine W_seq (W_region (L_as (L_nil (thenQ_normal (W_seq (W_region (L_mv (L_runesStr v_l l Try.underlying64 Try.underlying21 Try.underlying9 (by kernel_rfl) p_l (L_as (L_nil (thenQ_normal (W_ret ?_))))))))))))
  refine end_ret [.tmp 2] [(S (encL l))] rfl rfl ⟨by kernel_rfl, trivial⟩ ?_
  have e0 : (encL l) = encL l := by first | rfl | (simp_all; done) | omega
  exact ⟨congrArg S e0, hb⟩

set_option maxHeartbeats 4000000 in
set_option maxRecDepth 100000 in
theorem c_words_Loose (s : List UInt8) (w : World) (hs : s.length ≤ 1073741824) :
    Calls Try.prog 18 #[(S s)] w (Ret fun v w' => v = (S (looseS s)) ∧ Below w.heap.size w w') := by
  refine enter (args := [(S s)]) Try.func18 rfl (by kernel_rfl : _ = 35) (by kernel_rfl) ?_
  have hb := Below.refl w.heap.size w
  have hs : w.heap.size ≤ w.heap.size := Nat.le_refl _
  refine W_seq (W_region (L_as (L_nil (thenQ_normal (W_seq (W_region (L_as (L_nil (thenQ_normal (W_seq (W_seq (W_region (L_mv (L_range s Try.underlying9 (by kernel_rfl) ?_))))))))))))))
  intro b1 w2 hN3
  have g_it7 : w.heap.size ≤ b1 := by rw [hN3.num]; exact hs
  replace hb := hb.trans (hN3.below.mono hs)
  replace hs := Nat.le_trans hs (hN3.below.size)
  have o_it7 := hN3.here
  refine L_nil (thenQ_normal (W_block ?_))
  refine W_loop (fun m s0 w0 => ∃ (pos : Nat) (acc : List Int) (v_3 : Value), (m = s.length - pos) ∧ (s0.ds = []) ∧ (s0.f 2 = (S ([] : List UInt8))) ∧ (s0.f 7 = (.pointer (some ⟨b1, 0, none⟩))) ∧ (s0.f 3 = v_3) ∧ (Row w0 w.heap.size 21 1 encI32 v_3 acc) ∧ (w0.heap[b1]? = some (.stringIter ⟨(s).toArray⟩ pos)) ∧ (Below w.heap.size w w0) ∧ (w.heap.size ≤ w0.heap.size) ∧ (pos ≤ s.length) ∧ (acc.length ≤ pos) ∧ (acc ++ looseL (runesFrom s pos) = looseL (runesFrom s 0))) _ ⟨0, [], (.slice none 0 0), rfl, by kernel_rfl, by kernel_rfl, by kernel_rfl, by kernel_rfl, Row.nil _ _ _ _ _, o_it7, hb, hs, by omega, by simp, by simp⟩ ?_
  rintro m4 s5 w6 ⟨pos, acc, v_3, hm, hds, f_2, f_7, f_3, r_3, o_it7, hb, hs, i1, i2, i3⟩
  refine W_set 2 _ f_2 (W_set 7 _ f_7 (W_set 3 _ f_3 ?_))
  clear f_2 f_7 f_3
  refine W_seq (W_region ?_)
  rcases Nat.lt_or_ge pos (s).length with lt_it7 | ge_it7
  · refine L_next s b1 pos (by kernel_rfl) o_it7 lt_it7 ?_
    intro c_it7 w7 ch_it7 hW8
    replace hb := hb.trans (hW8.below g_it7)
    replace hs := Nat.le_trans hs (Nat.le_of_eq hW8.size.symm)
    have n_r_3 := r_3.wrote hW8 (r_3.ne o_it7 (by simp))
    replace r_3 := n_r_3; clear n_r_3
    replace o_it7 := hW8.here
    have := dec_pos s pos; have := dec_fits s pos lt_it7; have := dec_le s pos
    have c_it7_0 : 0 ≤ c_it7 := by omega
    have c_it7_1 : c_it7 ≤ 2147483647 := by omega
    refine L_run (.bool true) (by kernel_rfl) (by kernel_rfl) (L_nil (thenQ_normal (W_seq (W_true (by kernel_rfl) (W_skip (thenQ_normal (W_block (W_seq (W_region (L_run (.int .i32 c_it7) (by kernel_rfl) (by kernel_rfl) (L_as (L_nil (thenQ_normal (W_seq (W_seq (W_region (L_mv (L_call 13 [(.int .i32 c_it7)] (by kernel_rfl) (by kernel_rfl) (c_words_Blank c_it7 _ ) ?_))))))))))))))))))
    rintro _ w9 ⟨rfl, hB10⟩
    replace hb := hb.trans (hB10.mono hs)
    replace hs := Nat.le_trans hs (hB10.size)
    replace o_it7 := obj_below o_it7 hB10
    replace r_3 := r_3.below hB10
    refine put_split (blankB c_it7) ?_ ?_
    · intro h12
      refine L_mv (L_skip (by kernel_rfl) (L_skip (by kernel_rfl) (L_pickT (by kernel_rfl) (L_mv (L_skip (by kernel_rfl) (L_skip (by kernel_rfl) (L_pickT (by kernel_rfl) (L_nil (thenQ_normal (W_true (by kernel_rfl) (W_exit (thenQ_exit (blkQ_exit ?_)))))))))))))
      refine thenQ_normal ⟨_, ?_, (pos + (dec s pos).2), acc, v_3, rfl, hds, by kernel_rfl, by kernel_rfl, by kernel_rfl, r_3, o_it7, hb, hs, ?_, ?_, ?_⟩
      · omega
      · omega
      · (try simp only [List.length_append, List.length_cons, List.length_nil]); omega
      · rw [← i3, runesFrom_step lt_it7, ← ch_it7, looseL_cons]; clear ch_it7; simp [dropB, *]; try (unfold lowerI; split <;> omega)
    · intro h13
      refine L_mv (L_want (by kernel_rfl) (L_mv (L_want (by kernel_rfl) (L_cmp .i32 c_it7 95 (c_it7 = 95) rfl (cmp_eq c_it7 95) (by kernel_rfl) (by kernel_rfl) ?_ ?_))))
      · intro h14
        replace h14 : c_it7 = 95 := by omega
        refine L_pickF (by kernel_rfl) (L_mv (L_skip (by kernel_rfl) (L_skip (by kernel_rfl) (L_pickT (by kernel_rfl) (L_nil (thenQ_normal (W_true (by kernel_rfl) (W_exit (thenQ_exit (blkQ_exit ?_))))))))))
        refine thenQ_normal ⟨_, ?_, (pos + (dec s pos).2), acc, v_3, rfl, hds, by kernel_rfl, by kernel_rfl, by kernel_rfl, r_3, o_it7, hb, hs, ?_, ?_, ?_⟩
        · omega
        · omega
        · (try simp only [List.length_append, List.length_cons, List.length_nil]); omega
        · rw [← i3, runesFrom_step lt_it7, ← ch_it7, looseL_cons]; clear ch_it7; simp [dropB, *]; try (unfold lowerI; split <;> omega)
      · intro h15
        replace h15 : c_it7 ≠ 95 := by omega
        refine L_pickF (by kernel_rfl) (L_mv (L_want (by kernel_rfl) (L_mv (L_want (by kernel_rfl) (L_cmp .i32 c_it7 45 (c_it7 = 45) rfl (cmp_eq c_it7 45) (by kernel_rfl) (by kernel_rfl) ?_ ?_)))))
        · intro h16
          replace h16 : c_it7 = 45 := by omega
          refine L_pickF (by kernel_rfl) (L_nil (thenQ_normal (W_true (by kernel_rfl) (W_exit (thenQ_exit (blkQ_exit ?_))))))
          refine thenQ_normal ⟨_, ?_, (pos + (dec s pos).2), acc, v_3, rfl, hds, by kernel_rfl, by kernel_rfl, by kernel_rfl, r_3, o_it7, hb, hs, ?_, ?_, ?_⟩
          · omega
          · omega
          · (try simp only [List.length_append, List.length_cons, List.length_nil]); omega
          · rw [← i3, runesFrom_step lt_it7, ← ch_it7, looseL_cons]; clear ch_it7; simp [dropB, *]; try (unfold lowerI; split <;> omega)
        · intro h17
          replace h17 : c_it7 ≠ 45 := by omega
          refine L_pickF (by kernel_rfl) (L_nil (thenQ_normal (W_false (by kernel_rfl) (W_skip (thenQ_normal (W_seq (W_seq (W_region (L_mv (L_cmp .i32 c_it7 65 (65 ≤ c_it7) rfl (cmp_ge c_it7 65) (by kernel_rfl) (by kernel_rfl) ?_ ?_))))))))))
          · intro h18
            replace h18 : 65 ≤ c_it7 := by omega
            refine L_mv (L_want (by kernel_rfl) (L_mv (L_want (by kernel_rfl) (L_cmp .i32 c_it7 90 (c_it7 ≤ 90) rfl (cmp_le c_it7 90) (by kernel_rfl) (by kernel_rfl) ?_ ?_))))
            · intro h19
              replace h19 : c_it7 ≤ 90 := by omega
              refine L_pickT (by kernel_rfl) (L_nil (thenQ_normal (W_true (by kernel_rfl) (W_region (L_mv (L_arith c_it7 32 (c_it7 + 32) rfl (by kernel_rfl) (by kernel_rfl) (wrap_i32 _ (by simp only [arithZ]; omega) (by simp only [arithZ]; omega)) (L_as (L_nil (thenQ_normal (W_region (L_mv (L_mv (L_app el64 w.heap.size v_3 acc (c_it7 + 32) hs r_3 (by omega) (by kernel_rfl) rfl rfl (by kernel_rfl) rfl (by kernel_rfl) (by kernel_rfl) ?_)))))))))))))
              intro v20 w21 hr22 hg23 how24
              replace hb := hb.grown hg23 hs (fun k hk => (World.ownsRow.lt r_3 k hk).1)
              replace hs := Nat.le_trans hs (hg23.size)
              have n_o_it7 := obj_grown o_it7 hg23 (r_3.ne o_it7 (by simp))
              replace o_it7 := n_o_it7; clear n_o_it7
              replace r_3 := hr22
              refine L_as (L_nil (blkQ_normal ?_))
              refine thenQ_normal ⟨_, ?_, (pos + (dec s pos).2), (acc ++ [(c_it7 + 32)]), v20, rfl, hds, by kernel_rfl, by kernel_rfl, by kernel_rfl, r_3, o_it7, hb, hs, ?_, ?_, ?_⟩
              · omega
              · omega
              · (try simp only [List.length_append, List.length_cons, List.length_nil]); omega
              · rw [← i3, runesFrom_step lt_it7, ← ch_it7, looseL_cons]; clear ch_it7; simp [dropB, *]; try (unfold lowerI; split <;> omega)
            · intro h25
              replace h25 : 90 < c_it7 := by omega
              refine L_pickT (by kernel_rfl) (L_nil (thenQ_normal (W_false (by kernel_rfl) (W_skip (thenQ_normal (W_region (L_mv (L_mv (L_app el64 w.heap.size v_3 acc c_it7 hs r_3 (by omega) (by kernel_rfl) rfl rfl (by kernel_rfl) rfl (by kernel_rfl) (by kernel_rfl) ?_)))))))))
              intro v26 w27 hr28 hg29 how30
              replace hb := hb.grown hg29 hs (fun k hk => (World.ownsRow.lt r_3 k hk).1)
              replace hs := Nat.le_trans hs (hg29.size)
              have n_o_it7 := obj_grown o_it7 hg29 (r_3.ne o_it7 (by simp))
              replace o_it7 := n_o_it7; clear n_o_it7
              replace r_3 := hr28
              refine L_as (L_nil (blkQ_normal ?_))
              refine thenQ_normal ⟨_, ?_, (pos + (dec s pos).2), (acc ++ [c_it7]), v26, rfl, hds, by kernel_rfl, by kernel_rfl, by kernel_rfl, r_3, o_it7, hb, hs, ?_, ?_, ?_⟩
              · omega
              · omega
              · (try simp only [List.length_append, List.length_cons, List.length_nil]); omega
              · rw [← i3, runesFrom_step lt_it7, ← ch_it7, looseL_cons]; clear ch_it7; simp [dropB, *]; try (unfold lowerI; split <;> omega)
          · intro h31
            replace h31 : c_it7 < 65 := by omega
            refine L_mv (L_skip (by kernel_rfl) (L_skip (by kernel_rfl) (L_pickF (by kernel_rfl) (L_nil (thenQ_normal (W_false (by kernel_rfl) (W_skip (thenQ_normal (W_region (L_mv (L_mv (L_app el64 w.heap.size v_3 acc c_it7 hs r_3 (by omega) (by kernel_rfl) rfl rfl (by kernel_rfl) rfl (by kernel_rfl) (by kernel_rfl) ?_))))))))))))
            intro v32 w33 hr34 hg35 how36
            replace hb := hb.grown hg35 hs (fun k hk => (World.ownsRow.lt r_3 k hk).1)
            replace hs := Nat.le_trans hs (hg35.size)
            have n_o_it7 := obj_grown o_it7 hg35 (r_3.ne o_it7 (by simp))
            replace o_it7 := n_o_it7; clear n_o_it7
            replace r_3 := hr34
            refine L_as (L_nil (blkQ_normal ?_))
            refine thenQ_normal ⟨_, ?_, (pos + (dec s pos).2), (acc ++ [c_it7]), v32, rfl, hds, by kernel_rfl, by kernel_rfl, by kernel_rfl, r_3, o_it7, hb, hs, ?_, ?_, ?_⟩
            · omega
            · omega
            · (try simp only [List.length_append, List.length_cons, List.length_nil]); omega
            · rw [← i3, runesFrom_step lt_it7, ← ch_it7, looseL_cons]; clear ch_it7; simp [dropB, *]; try (unfold lowerI; split <;> omega)
  · refine L_nextEnd s b1 pos (by kernel_rfl) o_it7 ge_it7 (L_run (.bool false) (by kernel_rfl) (by kernel_rfl) (L_nil (thenQ_normal (W_seq (W_false (by kernel_rfl) (W_exit (thenQ_exit (thenQ_exit (blkQ_exit (thenQ_normal (W_seq (W_region (L_mv (L_call 41 [v_3] (by kernel_rfl) (by kernel_rfl) (c_utf_Encode v_3 acc _ r_3.rd) ?_))))))))))))))
    rintro _ w37 ⟨rfl, hB38⟩
    replace hb := hb.trans (hB38.mono hs)
    replace hs := Nat.le_trans hs (hB38.size)
    replace o_it7 := obj_below o_it7 hB38
    replace r_3 := r_3.below hB38
    refine L_as (L_nil (thenQ_normal (W_ret ?_)))
    refine end_ret [.tmp 2] [(S (encL acc))] rfl hds ⟨by kernel_rfl, trivial⟩ ?_
    have e0 : encL acc = looseS s := by rw [looseS, ← i3, runesFrom_end ge_it7]; simp [looseL]
    exact ⟨congrArg S e0, hb⟩

set_option maxHeartbeats 4000000 in
set_option maxRecDepth 100000 in
theorem it_words_Each_1 (b_s : Nat) (s : List UInt8) (hs : s.length ≤ 1073741824) :
    Iter (α := Int × List UInt8) Try.prog 40 [.pointer (some ⟨b_s, 0, none⟩)] (fun x => [.int .i64 x.1, S x.2]) (wordsOf s) (fun w => w.heap[b_s]? = some (.cells [(S s)].toArray 9 (0, 0))) := by
  intro l J Jx w hN h0 hJs hJxs hY
  refine enter (args := [(.func (.yield l) #[] #[]), (.pointer (some ⟨b_s, 0, none⟩))]) Try.func40 rfl (by kernel_rfl : _ = 44) (by kernel_rfl) ?_
  have hb := Below.refl w.heap.size w
  have hs : w.heap.size ≤ w.heap.size := Nat.le_refl _
  have o_caps := hN
  refine W_seq (W_region (L_as (L_nil (thenQ_normal (W_seq (W_seq (W_region (L_load b_s 0 (S s) (by kernel_rfl) (by kernel_rfl) (cell_obj o_caps rfl) (L_range s Try.underlying9 (by kernel_rfl) ?_)))))))))
  intro b1 w2 hN3
  have ne_caps_it7 : b_s ≠ b1 := by have := obj_lt o_caps; have := hN3.num; omega
  have ne_it7_caps := ne_caps_it7.symm
  have g_it7 : w.heap.size ≤ b1 := by rw [hN3.num]; exact hs
  replace hb := hb.trans (hN3.below.mono hs)
  replace hs := Nat.le_trans hs (hN3.below.size)
  replace o_caps := obj_below o_caps hN3.below
  have o_it7 := hN3.here
  refine L_nil (thenQ_normal (W_block ?_))
  have hJ := h0 _ hb
  obtain ⟨K, hKe⟩ : ∃ K, K = w2.heap.size := ⟨_, rfl⟩
  rw [← hKe] at hJ
  have hK : K ≤ w2.heap.size := by omega
  have hK0 : w.heap.size ≤ K := by omega
  have iv_it7 : Iv w.heap.size K b1 := ⟨g_it7, by have := obj_lt o_it7; omega⟩
  refine W_loop (fun m s0 w0 => ∃ (pos : Nat) (fr : Int) (pre : List (Int × List UInt8)), (m = s.length - pos) ∧ (s0.ds = []) ∧ (s0.f 0 = (.func (.yield l) #[] #[])) ∧ (s0.f 1 = (.pointer (some ⟨b_s, 0, none⟩))) ∧ (s0.f 7 = (.pointer (some ⟨b1, 0, none⟩))) ∧ (s0.f 3 = (.int .i64 fr)) ∧ (w0.heap[b_s]? = some (.cells [(S s)].toArray 9 (0, 0))) ∧ (w0.heap[b1]? = some (.stringIter ⟨(s).toArray⟩ pos)) ∧ (w.heap.size ≤ w0.heap.size) ∧ (K ≤ w0.heap.size) ∧ (J K pre w0) ∧ (pos ≤ s.length) ∧ (-1 ≤ fr) ∧ (fr ≤ pos) ∧ (pre ++ wordsFrom s pos fr = wordsOf s)) _ ⟨0, (-1), [], rfl, by kernel_rfl, by kernel_rfl, by kernel_rfl, by kernel_rfl, by kernel_rfl, o_caps, o_it7, hs, hK, hJ, by omega, by omega, by omega, by simp [wordsOf]⟩ ?_
  rintro m4 s5 w6 ⟨pos, fr, pre, hm, hds, f_0, f_1, f_7, f_3, o_caps, o_it7, hs, hK, hJ, i1, i2, i4, i3⟩
  refine W_set 0 _ f_0 (W_set 1 _ f_1 (W_set 7 _ f_7 (W_set 3 _ f_3 ?_)))
  clear f_0 f_1 f_7 f_3
  refine W_seq (W_region ?_)
  rcases Nat.lt_or_ge pos (s).length with lt_it7 | ge_it7
  · refine L_next s b1 pos (by kernel_rfl) o_it7 lt_it7 ?_
    intro c_it7 w7 ch_it7 hW8
    replace hJ := hJs _ _ _ _ hJ ((Ch.of_wrote hW8).mono (fun k e => e ▸ iv_it7))
    replace hK := Nat.le_trans hK (Nat.le_of_eq hW8.size.symm)
    replace hs := Nat.le_trans hs (Nat.le_of_eq hW8.size.symm)
    have n_o_caps := obj_wrote o_caps hW8 (obj_ne o_caps o_it7 (by simp))
    replace o_caps := n_o_caps; clear n_o_caps
    replace o_it7 := hW8.here
    have := dec_pos s pos; have := dec_fits s pos lt_it7; have := dec_le s pos
    have c_it7_0 : 0 ≤ c_it7 := by omega
    have c_it7_1 : c_it7 ≤ 2147483647 := by omega
    refine L_run (.bool true) (by kernel_rfl) (by kernel_rfl) (L_nil (thenQ_normal (W_seq (W_true (by kernel_rfl) (W_skip (thenQ_normal (W_block (W_seq (W_region (L_run (.int .i64 ((pos : Nat) : Int)) (by kernel_rfl) (by kernel_rfl) (L_run (.int .i32 c_it7) (by kernel_rfl) (by kernel_rfl) (L_as (L_as (L_nil (thenQ_normal (W_block (W_seq (W_region (L_mv (L_call 13 [(.int .i32 c_it7)] (by kernel_rfl) (by kernel_rfl) (c_words_Blank c_it7 _ ) ?_))))))))))))))))))))
    rintro _ w9 ⟨rfl, hB10⟩
    replace hJ := hJs _ _ _ _ hJ ((Ch.of_below hB10).mono (fun _ h => h.elim))
    replace hK := Nat.le_trans hK (hB10.size)
    replace hs := Nat.le_trans hs (hB10.size)
    replace o_caps := obj_below o_caps hB10
    replace o_it7 := obj_below o_it7 hB10
    refine put_split (blankB c_it7) ?_ ?_
    · intro h12
      refine L_mv (L_want (by kernel_rfl) (L_mv (L_want (by kernel_rfl) (L_cmp .i64 fr 0 (0 ≤ fr) rfl (cmp_ge fr 0) (by kernel_rfl) (by kernel_rfl) ?_ ?_))))
      · intro h13
        replace h13 : 0 ≤ fr := by omega
        refine L_pickT (by kernel_rfl) (L_as (L_nil (thenQ_normal (W_true (by kernel_rfl) (W_seq (W_seq (W_region (L_mv (L_mv (L_load b_s 0 (S s) (by kernel_rfl) (by kernel_rfl) (cell_obj o_caps rfl) (L_mv (L_mv (L_sslice s ((fr).toNat) pos Try.underlying9 (by kernel_rfl) (toNat_val fr .i64 (by kernel_rfl) (by omega)) ⟨.i64, by kernel_rfl⟩ (by omega) (by omega) ?_)))))))))))))
        have hpre : pre ++ [(fr, (List.drop ((fr).toNat) (List.take pos s)))] <+: wordsOf s := by first | (rw [wordsFrom_end ge_it7, if_pos (by omega)] at i3; exact pre_of (by simpa using i3)) | (rw [wordsFrom_step lt_it7 ch_it7, if_pos (by assumption), if_pos (by omega)] at i3; exact pre_of (by simpa using i3))
        refine L_yield l [(.int .i64 fr), (S (List.drop ((fr).toNat) (List.take pos s)))] (by kernel_rfl) (by kernel_rfl) (hY K pre (fr, (List.drop ((fr).toNat) (List.take pos s))) _ hJ o_caps hK0 hK hpre) ?_
        rintro e w14 (⟨rfl, hJ', hk, hN'⟩ | ⟨rfl, hJx, hk⟩)
        · refine ⟨true, rfl, ?_⟩
          replace o_it7 := (hk.same _ iv_it7).trans o_it7
          replace hs := Nat.le_trans hs hk.size
          replace hK := Nat.le_trans hK hk.size
          replace hJ := hJ'
          replace o_caps := hN'
          refine L_not true (by kernel_rfl) (L_nil (thenQ_normal (W_false (by kernel_rfl) (W_skip (thenQ_normal (W_region (L_as (L_nil (blkQ_normal (blkQ_normal ?_))))))))))
          refine thenQ_normal ⟨_, ?_, (pos + (dec s pos).2), (-1), (pre ++ [(fr, (List.drop ((fr).toNat) (List.take pos s)))]), rfl, hds, by kernel_rfl, by kernel_rfl, by kernel_rfl, by kernel_rfl, o_caps, o_it7, hs, hK, hJ, ?_, ?_, ?_, ?_⟩
          · omega
          · omega
          · omega
          · omega
          · rw [wordsFrom_step lt_it7 ch_it7] at i3; (repeat' split at i3) <;> first | (simpa using i3) | (exfalso; omega) | (exfalso; simp_all; done)
        · refine ⟨false, rfl, ?_⟩
          replace o_it7 := (hk.same _ iv_it7).trans o_it7
          replace hs := Nat.le_trans hs hk.size
          replace hK := Nat.le_trans hK hk.size
          refine L_not false (by kernel_rfl) (L_nil (thenQ_normal (W_true (by kernel_rfl) (W_ret (thenQ_ret (blkQ_ret (blkQ_ret (thenQ_ret (blkQ_ret (thenQ_ret ?_))))))))))
          refine end_ret [] [] rfl hds trivial ?_
          exact ⟨hs, Or.inr ⟨K, _, _, hpre, hJx⟩⟩
      · intro h15
        replace h15 : fr < 0 := by omega
        refine L_pickT (by kernel_rfl) (L_as (L_nil (thenQ_normal (W_false (by kernel_rfl) (W_seq (W_region (L_mv (L_call 13 [(.int .i32 c_it7)] (by kernel_rfl) (by kernel_rfl) (c_words_Blank c_it7 _ ) ?_))))))))
        rintro _ w16 ⟨rfl, hB17⟩
        replace hJ := hJs _ _ _ _ hJ ((Ch.of_below hB17).mono (fun _ h => h.elim))
        replace hK := Nat.le_trans hK (hB17.size)
        replace hs := Nat.le_trans hs (hB17.size)
        replace o_caps := obj_below o_caps hB17
        replace o_it7 := obj_below o_it7 hB17
        refine put_split (blankB c_it7) ?_ ?_
        · intro h19
          refine L_not true (by kernel_rfl) (L_mv (L_skip (by kernel_rfl) (L_skip (by kernel_rfl) (L_pickF (by kernel_rfl) (L_as (L_nil (thenQ_normal (W_false (by kernel_rfl) (W_skip (blkQ_normal (blkQ_normal ?_)))))))))))
          refine thenQ_normal ⟨_, ?_, (pos + (dec s pos).2), fr, pre, rfl, hds, by kernel_rfl, by kernel_rfl, by kernel_rfl, by kernel_rfl, o_caps, o_it7, hs, hK, hJ, ?_, ?_, ?_, ?_⟩
          · omega
          · omega
          · omega
          · omega
          · rw [wordsFrom_step lt_it7 ch_it7] at i3; (repeat' split at i3) <;> first | (simpa using i3) | (exfalso; omega) | (exfalso; simp_all; done)
        · intro h20
          rw [h12] at h20; cases h20
    · intro h21
      refine L_mv (L_skip (by kernel_rfl) (L_skip (by kernel_rfl) (L_pickF (by kernel_rfl) (L_as (L_nil (thenQ_normal (W_false (by kernel_rfl) (W_seq (W_region (L_mv (L_call 13 [(.int .i32 c_it7)] (by kernel_rfl) (by kernel_rfl) (c_words_Blank c_it7 _ ) ?_)))))))))))
      rintro _ w22 ⟨rfl, hB23⟩
      replace hJ := hJs _ _ _ _ hJ ((Ch.of_below hB23).mono (fun _ h => h.elim))
      replace hK := Nat.le_trans hK (hB23.size)
      replace hs := Nat.le_trans hs (hB23.size)
      replace o_caps := obj_below o_caps hB23
      replace o_it7 := obj_below o_it7 hB23
      refine put_split (blankB c_it7) ?_ ?_
      · intro h25
        rw [h21] at h25; cases h25
      · intro h26
        refine L_not false (by kernel_rfl) (L_mv (L_want (by kernel_rfl) (L_mv (L_want (by kernel_rfl) (L_cmp .i64 fr 0 (fr < 0) rfl (cmp_lt fr 0) (by kernel_rfl) (by kernel_rfl) ?_ ?_)))))
        · intro h27
          replace h27 : fr < 0 := by omega
          refine L_pickT (by kernel_rfl) (L_as (L_nil (thenQ_normal (W_true (by kernel_rfl) (W_region (L_mv (L_as (L_nil (blkQ_normal (blkQ_normal ?_))))))))))
          refine thenQ_normal ⟨_, ?_, (pos + (dec s pos).2), ((pos : Nat) : Int), pre, rfl, hds, by kernel_rfl, by kernel_rfl, by kernel_rfl, by kernel_rfl, o_caps, o_it7, hs, hK, hJ, ?_, ?_, ?_, ?_⟩
          · omega
          · omega
          · omega
          · omega
          · rw [wordsFrom_step lt_it7 ch_it7] at i3; (repeat' split at i3) <;> first | (simpa using i3) | (exfalso; omega) | (exfalso; simp_all; done)
        · intro h28
          replace h28 : 0 ≤ fr := by omega
          refine L_pickT (by kernel_rfl) (L_as (L_nil (thenQ_normal (W_false (by kernel_rfl) (W_skip (blkQ_normal (blkQ_normal ?_)))))))
          refine thenQ_normal ⟨_, ?_, (pos + (dec s pos).2), fr, pre, rfl, hds, by kernel_rfl, by kernel_rfl, by kernel_rfl, by kernel_rfl, o_caps, o_it7, hs, hK, hJ, ?_, ?_, ?_, ?_⟩
          · omega
          · omega
          · omega
          · omega
          · rw [wordsFrom_step lt_it7 ch_it7] at i3; (repeat' split at i3) <;> first | (simpa using i3) | (exfalso; omega) | (exfalso; simp_all; done)
  · refine L_nextEnd s b1 pos (by kernel_rfl) o_it7 ge_it7 (L_run (.bool false) (by kernel_rfl) (by kernel_rfl) (L_nil (thenQ_normal (W_seq (W_false (by kernel_rfl) (W_exit (thenQ_exit (thenQ_exit (blkQ_exit (thenQ_normal (W_seq (W_region (L_mv (L_cmp .i64 fr 0 (0 ≤ fr) rfl (cmp_ge fr 0) (by kernel_rfl) (by kernel_rfl) ?_ ?_))))))))))))))
    · intro h29
      replace h29 : 0 ≤ fr := by omega
      refine L_nil (thenQ_normal (W_true (by kernel_rfl) (W_region (L_mv (L_mv (L_load b_s 0 (S s) (by kernel_rfl) (by kernel_rfl) (cell_obj o_caps rfl) (L_mv (L_ssfrom s ((fr).toNat) Try.underlying9 (by kernel_rfl) (toNat_val fr .i64 (by kernel_rfl) (by omega)) (by omega) ?_))))))))
      have hpre : pre ++ [(fr, (List.drop ((fr).toNat) s))] <+: wordsOf s := by first | (rw [wordsFrom_end ge_it7, if_pos (by omega)] at i3; exact pre_of (by simpa using i3)) | (rw [wordsFrom_step lt_it7 ch_it7, if_pos (by assumption), if_pos (by omega)] at i3; exact pre_of (by simpa using i3))
      refine L_yield l [(.int .i64 fr), (S (List.drop ((fr).toNat) s))] (by kernel_rfl) (by kernel_rfl) (hY K pre (fr, (List.drop ((fr).toNat) s)) _ hJ o_caps hK0 hK hpre) ?_
      rintro e w30 (⟨rfl, hJ', hk, hN'⟩ | ⟨rfl, hJx, hk⟩)
      · refine ⟨true, rfl, ?_⟩
        replace o_it7 := (hk.same _ iv_it7).trans o_it7
        replace hs := Nat.le_trans hs hk.size
        replace hK := Nat.le_trans hK hk.size
        replace hJ := hJ'
        replace o_caps := hN'
        refine L_nil ?_
        refine end_normal [] [] rfl hds trivial ?_
        have epre : (pre ++ [(fr, (List.drop ((fr).toNat) s))]) = wordsOf s := by rw [wordsFrom_end ge_it7] at i3; split at i3 <;> first | (simpa using i3) | (exfalso; omega)
        rw [epre] at hJ
        exact ⟨hs, Or.inl ⟨K, hJ⟩⟩
      · refine ⟨false, rfl, ?_⟩
        replace o_it7 := (hk.same _ iv_it7).trans o_it7
        replace hs := Nat.le_trans hs hk.size
        replace hK := Nat.le_trans hK hk.size
        refine L_nil ?_
        refine end_normal [] [] rfl hds trivial ?_
        exact ⟨hs, Or.inr ⟨K, _, _, hpre, hJx⟩⟩
    · intro h31
      replace h31 : fr < 0 := by omega
      refine L_nil (thenQ_normal (W_false (by kernel_rfl) (W_skip ?_)))
      refine end_normal [] [] rfl hds trivial ?_
      have epre : pre = wordsOf s := by rw [wordsFrom_end ge_it7] at i3; split at i3 <;> first | (simpa using i3) | (exfalso; omega)
      rw [epre] at hJ
      exact ⟨hs, Or.inl ⟨K, hJ⟩⟩

set_option maxHeartbeats 4000000 in
set_option maxRecDepth 100000 in
theorem c_words_Each (s : List UInt8) (w : World) :
    Calls Try.prog 17 #[(S s)] w (Ret fun v w' => ∃ (cb0 : Nat), v = (.func (.func 40) #[] #[(.pointer (some ⟨cb0, 0, none⟩))]) ∧ w'.heap[cb0]? = some (.cells [(S s)].toArray 9 (0, 0)) ∧ w.heap.size ≤ cb0 ∧ Below w.heap.size w w') := by
  refine enter (args := [(S s)]) Try.func17 rfl (by kernel_rfl : _ = 4) (by kernel_rfl) ?_
  have hb := Below.refl w.heap.size w
  have hs : w.heap.size ≤ w.heap.size := Nat.le_refl _
  refine W_seq (W_region (L_new (fun b => .pointer (some ⟨b, 0, none⟩)) (.cells [(S s)].toArray 9 (0, 0)) (by kernel_rfl) (by kernel_rfl) ?_))
  intro b1 w2 hN3
  have g_x1 : w.heap.size ≤ b1 := by rw [hN3.num]; exact hs
  replace hb := hb.trans (hN3.below.mono hs)
  replace hs := Nat.le_trans hs (hN3.below.size)
  have o_x1 := hN3.here
  refine L_as (L_nil (thenQ_normal (W_seq (W_region (L_run (.func (.func 40) #[] #[(.pointer (some ⟨b1, 0, none⟩))]) (by kernel_rfl) (by kernel_rfl) (L_as (L_nil (thenQ_normal (W_ret ?_)))))))))
  refine end_ret [.tmp 2] [(.func (.func 40) #[] #[(.pointer (some ⟨b1, 0, none⟩))])] rfl rfl ⟨by kernel_rfl, trivial⟩ ?_
  exact ⟨b1, rfl, o_x1, g_x1, hb⟩

set_option maxHeartbeats 4000000 in
set_option maxRecDepth 100000 in
theorem c_words_Alike (a : List UInt8) (b : List UInt8) (w : World) (ha : a.length ≤ 1073741824) (hb_ : b.length ≤ 1073741824) :
    Calls Try.prog 20 #[(S a), (S b)] w (Ret fun v w' => v = (.bool (alikeB a b)) ∧ Below w.heap.size w w') := by
  refine enter (args := [(S a), (S b)]) Try.func20 rfl (by kernel_rfl : _ = 10) (by kernel_rfl) ?_
  have hb := Below.refl w.heap.size w
  have hs : w.heap.size ≤ w.heap.size := Nat.le_refl _
  refine W_seq (W_region (L_as (L_nil (thenQ_normal (W_seq (W_region (L_mv (L_call 18 [(S a)] (by kernel_rfl) (by kernel_rfl) (c_words_Loose a _ (by omega)) ?_))))))))
  rintro _ w1 ⟨rfl, hB2⟩
  replace hb := hb.trans (hB2.mono hs)
  replace hs := Nat.le_trans hs (hB2.size)
  refine L_mv (L_call 18 [(S b)] (by kernel_rfl) (by kernel_rfl) (c_words_Loose b _ (by omega)) ?_)
  rintro _ w4 ⟨rfl, hB5⟩
  replace hb := hb.trans (hB5.mono hs)
  replace hs := Nat.le_trans hs (hB5.size)
  refine L_seq (looseS a) (looseS b) rfl (by kernel_rfl) (by kernel_rfl) ?_ ?_
  · intro h7
    refine L_as (L_nil (thenQ_normal (W_ret ?_)))
    refine end_ret [.tmp 4] [(.bool true)] rfl rfl ⟨by kernel_rfl, trivial⟩ ?_
    have e0 : true = alikeB a b := by simp [alikeB, *]
    exact ⟨congrArg Value.bool e0, hb⟩
  · intro h8
    refine L_as (L_nil (thenQ_normal (W_ret ?_)))
    refine end_ret [.tmp 4] [(.bool false)] rfl rfl ⟨by kernel_rfl, trivial⟩ ?_
    have e0 : false = alikeB a b := by simp [alikeB, *]
    exact ⟨congrArg Value.bool e0, hb⟩

set_option maxHeartbeats 4000000 in
set_option maxRecDepth 100000 in
theorem c_words_formats (c : Int) (w : World) :
    Calls Try.prog 48 #[(.int .u8 c)] w (Ret fun v w' => v = (.tuple #[(S (shortF c)), (S (longF c))]) ∧ Below w.heap.size w w') := by
  refine enter (args := [(.int .u8 c)]) Try.func48 rfl (by kernel_rfl : _ = 23) (by kernel_rfl) ?_
  have hb := Below.refl w.heap.size w
  have hs : w.heap.size ≤ w.heap.size := Nat.le_refl _
  refine W_seq (W_region (L_as (L_as (L_nil (thenQ_normal (W_seq (W_seq (W_region (L_mv (L_nil (thenQ_normal (W_block (W_seq (W_region (L_cmp .u8 c 15 (c = 15) rfl (cmp_eq c 15) (by kernel_rfl) (by kernel_rfl) ?_ ?_)))))))))))))))
  · intro h1
    replace h1 : c = 15 := by omega
    refine L_as (L_nil (thenQ_normal (W_true (by kernel_rfl) (W_seq (W_region (L_as (L_as (L_nil (thenQ_normal (W_ret (blkQ_ret (thenQ_ret ?_))))))))))))
    refine end_ret [.tmp 2, .tmp 3] [(S ([76, 82, 69] : List UInt8)), (S ([76, 101, 102, 116, 95, 84, 111, 95, 82, 105, 103, 104, 116, 95, 69, 109, 98, 101, 100, 100, 105, 110, 103] : List UInt8))] rfl rfl ⟨by kernel_rfl, by kernel_rfl, trivial⟩ ?_
    have hE : (([76, 82, 69] : List UInt8) = shortF c) ∧ (([76, 101, 102, 116, 95, 84, 111, 95, 82, 105, 103, 104, 116, 95, 69, 109, 98, 101, 100, 100, 105, 110, 103] : List UInt8) = longF c) := ⟨(by subst_vars; kernel_rfl), (by subst_vars; kernel_rfl)⟩
    exact ⟨tup2 (congrArg S hE.1) (congrArg S hE.2), hb⟩
  · intro h2
    replace h2 : c ≠ 15 := by omega
    refine L_as (L_nil (thenQ_normal (W_false (by kernel_rfl) (W_seq (W_region (L_cmp .u8 c 16 (c = 16) rfl (cmp_eq c 16) (by kernel_rfl) (by kernel_rfl) ?_ ?_))))))
    · intro h3
      replace h3 : c = 16 := by omega
      refine L_as (L_nil (thenQ_normal (W_true (by kernel_rfl) (W_seq (W_region (L_as (L_as (L_nil (thenQ_normal (W_ret (blkQ_ret (thenQ_ret ?_))))))))))))
      refine end_ret [.tmp 2, .tmp 3] [(S ([76, 82, 79] : List UInt8)), (S ([76, 101, 102, 116, 95, 84, 111, 95, 82, 105, 103, 104, 116, 95, 79, 118, 101, 114, 114, 105, 100, 101] : List UInt8))] rfl rfl ⟨by kernel_rfl, by kernel_rfl, trivial⟩ ?_
      have hE : (([76, 82, 79] : List UInt8) = shortF c) ∧ (([76, 101, 102, 116, 95, 84, 111, 95, 82, 105, 103, 104, 116, 95, 79, 118, 101, 114, 114, 105, 100, 101] : List UInt8) = longF c) := ⟨(by subst_vars; kernel_rfl), (by subst_vars; kernel_rfl)⟩
      exact ⟨tup2 (congrArg S hE.1) (congrArg S hE.2), hb⟩
    · intro h4
      replace h4 : c ≠ 16 := by omega
      refine L_as (L_nil (thenQ_normal (W_false (by kernel_rfl) (W_seq (W_region (L_cmp .u8 c 17 (c = 17) rfl (cmp_eq c 17) (by kernel_rfl) (by kernel_rfl) ?_ ?_))))))
      · intro h5
        replace h5 : c = 17 := by omega
        refine L_as (L_nil (thenQ_normal (W_true (by kernel_rfl) (W_seq (W_region (L_as (L_as (L_nil (thenQ_normal (W_ret (blkQ_ret (thenQ_ret ?_))))))))))))
        refine end_ret [.tmp 2, .tmp 3] [(S ([82, 76, 69] : List UInt8)), (S ([82, 105, 103, 104, 116, 95, 84, 111, 95, 76, 101, 102, 116, 95, 69, 109, 98, 101, 100, 100, 105, 110, 103] : List UInt8))] rfl rfl ⟨by kernel_rfl, by kernel_rfl, trivial⟩ ?_
        have hE : (([82, 76, 69] : List UInt8) = shortF c) ∧ (([82, 105, 103, 104, 116, 95, 84, 111, 95, 76, 101, 102, 116, 95, 69, 109, 98, 101, 100, 100, 105, 110, 103] : List UInt8) = longF c) := ⟨(by subst_vars; kernel_rfl), (by subst_vars; kernel_rfl)⟩
        exact ⟨tup2 (congrArg S hE.1) (congrArg S hE.2), hb⟩
      · intro h6
        replace h6 : c ≠ 17 := by omega
        refine L_as (L_nil (thenQ_normal (W_false (by kernel_rfl) (W_seq (W_region (L_cmp .u8 c 18 (c = 18) rfl (cmp_eq c 18) (by kernel_rfl) (by kernel_rfl) ?_ ?_))))))
        · intro h7
          replace h7 : c = 18 := by omega
          refine L_as (L_nil (thenQ_normal (W_true (by kernel_rfl) (W_seq (W_region (L_as (L_as (L_nil (thenQ_normal (W_ret (blkQ_ret (thenQ_ret ?_))))))))))))
          refine end_ret [.tmp 2, .tmp 3] [(S ([82, 76, 79] : List UInt8)), (S ([82, 105, 103, 104, 116, 95, 84, 111, 95, 76, 101, 102, 116, 95, 79, 118, 101, 114, 114, 105, 100, 101] : List UInt8))] rfl rfl ⟨by kernel_rfl, by kernel_rfl, trivial⟩ ?_
          have hE : (([82, 76, 79] : List UInt8) = shortF c) ∧ (([82, 105, 103, 104, 116, 95, 84, 111, 95, 76, 101, 102, 116, 95, 79, 118, 101, 114, 114, 105, 100, 101] : List UInt8) = longF c) := ⟨(by subst_vars; kernel_rfl), (by subst_vars; kernel_rfl)⟩
          exact ⟨tup2 (congrArg S hE.1) (congrArg S hE.2), hb⟩
        · intro h8
          replace h8 : c ≠ 18 := by omega
          refine L_as (L_nil (thenQ_normal (W_false (by kernel_rfl) (W_seq (W_region (L_cmp .u8 c 19 (c = 19) rfl (cmp_eq c 19) (by kernel_rfl) (by kernel_rfl) ?_ ?_))))))
          · intro h9
            replace h9 : c = 19 := by omega
            refine L_as (L_nil (thenQ_normal (W_true (by kernel_rfl) (W_seq (W_region (L_as (L_as (L_nil (thenQ_normal (W_ret (blkQ_ret (thenQ_ret ?_))))))))))))
            refine end_ret [.tmp 2, .tmp 3] [(S ([80, 68, 70] : List UInt8)), (S ([80, 111, 112, 95, 68, 105, 114, 101, 99, 116, 105, 111, 110, 97, 108, 95, 70, 111, 114, 109, 97, 116] : List UInt8))] rfl rfl ⟨by kernel_rfl, by kernel_rfl, trivial⟩ ?_
            have hE : (([80, 68, 70] : List UInt8) = shortF c) ∧ (([80, 111, 112, 95, 68, 105, 114, 101, 99, 116, 105, 111, 110, 97, 108, 95, 70, 111, 114, 109, 97, 116] : List UInt8) = longF c) := ⟨(by subst_vars; kernel_rfl), (by subst_vars; kernel_rfl)⟩
            exact ⟨tup2 (congrArg S hE.1) (congrArg S hE.2), hb⟩
          · intro h10
            replace h10 : c ≠ 19 := by omega
            refine L_as (L_nil (thenQ_normal (W_false (by kernel_rfl) (W_seq (W_region (L_cmp .u8 c 20 (c = 20) rfl (cmp_eq c 20) (by kernel_rfl) (by kernel_rfl) ?_ ?_))))))
            · intro h11
              replace h11 : c = 20 := by omega
              refine L_as (L_nil (thenQ_normal (W_true (by kernel_rfl) (W_seq (W_region (L_as (L_as (L_nil (thenQ_normal (W_ret (blkQ_ret (thenQ_ret ?_))))))))))))
              refine end_ret [.tmp 2, .tmp 3] [(S ([76, 82, 73] : List UInt8)), (S ([76, 101, 102, 116, 95, 84, 111, 95, 82, 105, 103, 104, 116, 95, 73, 115, 111, 108, 97, 116, 101] : List UInt8))] rfl rfl ⟨by kernel_rfl, by kernel_rfl, trivial⟩ ?_
              have hE : (([76, 82, 73] : List UInt8) = shortF c) ∧ (([76, 101, 102, 116, 95, 84, 111, 95, 82, 105, 103, 104, 116, 95, 73, 115, 111, 108, 97, 116, 101] : List UInt8) = longF c) := ⟨(by subst_vars; kernel_rfl), (by subst_vars; kernel_rfl)⟩
              exact ⟨tup2 (congrArg S hE.1) (congrArg S hE.2), hb⟩
            · intro h12
              replace h12 : c ≠ 20 := by omega
              refine L_as (L_nil (thenQ_normal (W_false (by kernel_rfl) (W_seq (W_region (L_cmp .u8 c 21 (c = 21) rfl (cmp_eq c 21) (by kernel_rfl) (by kernel_rfl) ?_ ?_))))))
              · intro h13
                replace h13 : c = 21 := by omega
                refine L_as (L_nil (thenQ_normal (W_true (by kernel_rfl) (W_seq (W_region (L_as (L_as (L_nil (thenQ_normal (W_ret (blkQ_ret (thenQ_ret ?_))))))))))))
                refine end_ret [.tmp 2, .tmp 3] [(S ([82, 76, 73] : List UInt8)), (S ([82, 105, 103, 104, 116, 95, 84, 111, 95, 76, 101, 102, 116, 95, 73, 115, 111, 108, 97, 116, 101] : List UInt8))] rfl rfl ⟨by kernel_rfl, by kernel_rfl, trivial⟩ ?_
                have hE : (([82, 76, 73] : List UInt8) = shortF c) ∧ (([82, 105, 103, 104, 116, 95, 84, 111, 95, 76, 101, 102, 116, 95, 73, 115, 111, 108, 97, 116, 101] : List UInt8) = longF c) := ⟨(by subst_vars; kernel_rfl), (by subst_vars; kernel_rfl)⟩
                exact ⟨tup2 (congrArg S hE.1) (congrArg S hE.2), hb⟩
              · intro h14
                replace h14 : c ≠ 21 := by omega
                refine L_as (L_nil (thenQ_normal (W_false (by kernel_rfl) (W_seq (W_region (L_cmp .u8 c 22 (c = 22) rfl (cmp_eq c 22) (by kernel_rfl) (by kernel_rfl) ?_ ?_))))))
                · intro h15
                  replace h15 : c = 22 := by omega
                  refine L_as (L_nil (thenQ_normal (W_true (by kernel_rfl) (W_seq (W_region (L_as (L_as (L_nil (thenQ_normal (W_ret (blkQ_ret (thenQ_ret ?_))))))))))))
                  refine end_ret [.tmp 2, .tmp 3] [(S ([70, 83, 73] : List UInt8)), (S ([70, 105, 114, 115, 116, 95, 83, 116, 114, 111, 110, 103, 95, 73, 115, 111, 108, 97, 116, 101] : List UInt8))] rfl rfl ⟨by kernel_rfl, by kernel_rfl, trivial⟩ ?_
                  have hE : (([70, 83, 73] : List UInt8) = shortF c) ∧ (([70, 105, 114, 115, 116, 95, 83, 116, 114, 111, 110, 103, 95, 73, 115, 111, 108, 97, 116, 101] : List UInt8) = longF c) := ⟨(by subst_vars; kernel_rfl), (by subst_vars; kernel_rfl)⟩
                  exact ⟨tup2 (congrArg S hE.1) (congrArg S hE.2), hb⟩
                · intro h16
                  replace h16 : c ≠ 22 := by omega
                  refine L_as (L_nil (thenQ_normal (W_false (by kernel_rfl) (W_seq (W_region (L_cmp .u8 c 23 (c = 23) rfl (cmp_eq c 23) (by kernel_rfl) (by kernel_rfl) ?_ ?_))))))
                  · intro h17
                    replace h17 : c = 23 := by omega
                    refine L_as (L_nil (thenQ_normal (W_true (by kernel_rfl) (W_seq (W_region (L_as (L_as (L_nil (thenQ_normal (W_ret (blkQ_ret (thenQ_ret ?_))))))))))))
                    refine end_ret [.tmp 2, .tmp 3] [(S ([80, 68, 73] : List UInt8)), (S ([80, 111, 112, 95, 68, 105, 114, 101, 99, 116, 105, 111, 110, 97, 108, 95, 73, 115, 111, 108, 97, 116, 101] : List UInt8))] rfl rfl ⟨by kernel_rfl, by kernel_rfl, trivial⟩ ?_
                    have hE : (([80, 68, 73] : List UInt8) = shortF c) ∧ (([80, 111, 112, 95, 68, 105, 114, 101, 99, 116, 105, 111, 110, 97, 108, 95, 73, 115, 111, 108, 97, 116, 101] : List UInt8) = longF c) := ⟨(by subst_vars; kernel_rfl), (by subst_vars; kernel_rfl)⟩
                    exact ⟨tup2 (congrArg S hE.1) (congrArg S hE.2), hb⟩
                  · intro h18
                    replace h18 : c ≠ 23 := by omega
                    refine L_as (L_nil (thenQ_normal (W_false (by kernel_rfl) (W_skip (blkQ_normal (thenQ_normal (W_seq (W_region (L_as (L_as (L_nil (thenQ_normal (W_ret ?_)))))))))))))
                    refine end_ret [.tmp 2, .tmp 3] [(S ([] : List UInt8)), (S ([] : List UInt8))] rfl rfl ⟨by kernel_rfl, by kernel_rfl, trivial⟩ ?_
                    have hE : (([] : List UInt8) = shortF c) ∧ (([] : List UInt8) = longF c) := ⟨(by rw [shortF_none (by omega)]), (by rw [longF_none (by omega)])⟩
                    exact ⟨tup2 (congrArg S hE.1) (congrArg S hE.2), hb⟩

set_option maxHeartbeats 4000000 in
set_option maxRecDepth 100000 in
theorem c_words_names (c : Int) (w : World) (hc : 0 ≤ c) :
    Calls Try.prog 44 #[(.int .u8 c)] w (Ret fun v w' => v = (.tuple #[(S (shortS c)), (S (longS c))]) ∧ Below w.heap.size w w') := by
  refine enter (args := [(.int .u8 c)]) Try.func44 rfl (by kernel_rfl : _ = 37) (by kernel_rfl) ?_
  have hb := Below.refl w.heap.size w
  have hs : w.heap.size ≤ w.heap.size := Nat.le_refl _
  refine W_seq (W_region (L_as (L_as (L_nil (thenQ_normal (W_seq (W_seq (W_region (L_mv (L_nil (thenQ_normal (W_block (W_seq (W_region (L_cmp .u8 c 1 (c = 1) rfl (cmp_eq c 1) (by kernel_rfl) (by kernel_rfl) ?_ ?_)))))))))))))))
  · intro h1
    replace h1 : c = 1 := by omega
    refine L_as (L_nil (thenQ_normal (W_true (by kernel_rfl) (W_seq (W_region (L_as (L_as (L_nil (thenQ_normal (W_ret (blkQ_ret (thenQ_ret ?_))))))))))))
    refine end_ret [.tmp 2, .tmp 3] [(S ([76] : List UInt8)), (S ([76, 101, 102, 116, 95, 84, 111, 95, 82, 105, 103, 104, 116] : List UInt8))] rfl rfl ⟨by kernel_rfl, by kernel_rfl, trivial⟩ ?_
    have hE : (([76] : List UInt8) = shortS c) ∧ (([76, 101, 102, 116, 95, 84, 111, 95, 82, 105, 103, 104, 116] : List UInt8) = longS c) := ⟨(by subst_vars; kernel_rfl), (by subst_vars; kernel_rfl)⟩
    exact ⟨tup2 (congrArg S hE.1) (congrArg S hE.2), hb⟩
  · intro h2
    replace h2 : c ≠ 1 := by omega
    refine L_as (L_nil (thenQ_normal (W_false (by kernel_rfl) (W_seq (W_region (L_cmp .u8 c 2 (c = 2) rfl (cmp_eq c 2) (by kernel_rfl) (by kernel_rfl) ?_ ?_))))))
    · intro h3
      replace h3 : c = 2 := by omega
      refine L_as (L_nil (thenQ_normal (W_true (by kernel_rfl) (W_seq (W_region (L_as (L_as (L_nil (thenQ_normal (W_ret (blkQ_ret (thenQ_ret ?_))))))))))))
      refine end_ret [.tmp 2, .tmp 3] [(S ([82] : List UInt8)), (S ([82, 105, 103, 104, 116, 95, 84, 111, 95, 76, 101, 102, 116] : List UInt8))] rfl rfl ⟨by kernel_rfl, by kernel_rfl, trivial⟩ ?_
      have hE : (([82] : List UInt8) = shortS c) ∧ (([82, 105, 103, 104, 116, 95, 84, 111, 95, 76, 101, 102, 116] : List UInt8) = longS c) := ⟨(by subst_vars; kernel_rfl), (by subst_vars; kernel_rfl)⟩
      exact ⟨tup2 (congrArg S hE.1) (congrArg S hE.2), hb⟩
    · intro h4
      replace h4 : c ≠ 2 := by omega
      refine L_as (L_nil (thenQ_normal (W_false (by kernel_rfl) (W_seq (W_region (L_cmp .u8 c 3 (c = 3) rfl (cmp_eq c 3) (by kernel_rfl) (by kernel_rfl) ?_ ?_))))))
      · intro h5
        replace h5 : c = 3 := by omega
        refine L_as (L_nil (thenQ_normal (W_true (by kernel_rfl) (W_seq (W_region (L_as (L_as (L_nil (thenQ_normal (W_ret (blkQ_ret (thenQ_ret ?_))))))))))))
        refine end_ret [.tmp 2, .tmp 3] [(S ([65, 76] : List UInt8)), (S ([65, 114, 97, 98, 105, 99, 95, 76, 101, 116, 116, 101, 114] : List UInt8))] rfl rfl ⟨by kernel_rfl, by kernel_rfl, trivial⟩ ?_
        have hE : (([65, 76] : List UInt8) = shortS c) ∧ (([65, 114, 97, 98, 105, 99, 95, 76, 101, 116, 116, 101, 114] : List UInt8) = longS c) := ⟨(by subst_vars; kernel_rfl), (by subst_vars; kernel_rfl)⟩
        exact ⟨tup2 (congrArg S hE.1) (congrArg S hE.2), hb⟩
      · intro h6
        replace h6 : c ≠ 3 := by omega
        refine L_as (L_nil (thenQ_normal (W_false (by kernel_rfl) (W_seq (W_region (L_cmp .u8 c 4 (c = 4) rfl (cmp_eq c 4) (by kernel_rfl) (by kernel_rfl) ?_ ?_))))))
        · intro h7
          replace h7 : c = 4 := by omega
          refine L_as (L_nil (thenQ_normal (W_true (by kernel_rfl) (W_seq (W_region (L_as (L_as (L_nil (thenQ_normal (W_ret (blkQ_ret (thenQ_ret ?_))))))))))))
          refine end_ret [.tmp 2, .tmp 3] [(S ([69, 78] : List UInt8)), (S ([69, 117, 114, 111, 112, 101, 97, 110, 95, 78, 117, 109, 98, 101, 114] : List UInt8))] rfl rfl ⟨by kernel_rfl, by kernel_rfl, trivial⟩ ?_
          have hE : (([69, 78] : List UInt8) = shortS c) ∧ (([69, 117, 114, 111, 112, 101, 97, 110, 95, 78, 117, 109, 98, 101, 114] : List UInt8) = longS c) := ⟨(by subst_vars; kernel_rfl), (by subst_vars; kernel_rfl)⟩
          exact ⟨tup2 (congrArg S hE.1) (congrArg S hE.2), hb⟩
        · intro h8
          replace h8 : c ≠ 4 := by omega
          refine L_as (L_nil (thenQ_normal (W_false (by kernel_rfl) (W_seq (W_region (L_cmp .u8 c 5 (c = 5) rfl (cmp_eq c 5) (by kernel_rfl) (by kernel_rfl) ?_ ?_))))))
          · intro h9
            replace h9 : c = 5 := by omega
            refine L_as (L_nil (thenQ_normal (W_true (by kernel_rfl) (W_seq (W_region (L_as (L_as (L_nil (thenQ_normal (W_ret (blkQ_ret (thenQ_ret ?_))))))))))))
            refine end_ret [.tmp 2, .tmp 3] [(S ([69, 83] : List UInt8)), (S ([69, 117, 114, 111, 112, 101, 97, 110, 95, 83, 101, 112, 97, 114, 97, 116, 111, 114] : List UInt8))] rfl rfl ⟨by kernel_rfl, by kernel_rfl, trivial⟩ ?_
            have hE : (([69, 83] : List UInt8) = shortS c) ∧ (([69, 117, 114, 111, 112, 101, 97, 110, 95, 83, 101, 112, 97, 114, 97, 116, 111, 114] : List UInt8) = longS c) := ⟨(by subst_vars; kernel_rfl), (by subst_vars; kernel_rfl)⟩
            exact ⟨tup2 (congrArg S hE.1) (congrArg S hE.2), hb⟩
          · intro h10
            replace h10 : c ≠ 5 := by omega
            refine L_as (L_nil (thenQ_normal (W_false (by kernel_rfl) (W_seq (W_region (L_cmp .u8 c 6 (c = 6) rfl (cmp_eq c 6) (by kernel_rfl) (by kernel_rfl) ?_ ?_))))))
            · intro h11
              replace h11 : c = 6 := by omega
              refine L_as (L_nil (thenQ_normal (W_true (by kernel_rfl) (W_seq (W_region (L_as (L_as (L_nil (thenQ_normal (W_ret (blkQ_ret (thenQ_ret ?_))))))))))))
              refine end_ret [.tmp 2, .tmp 3] [(S ([69, 84] : List UInt8)), (S ([69, 117, 114, 111, 112, 101, 97, 110, 95, 84, 101, 114, 109, 105, 110, 97, 116, 111, 114] : List UInt8))] rfl rfl ⟨by kernel_rfl, by kernel_rfl, trivial⟩ ?_
              have hE : (([69, 84] : List UInt8) = shortS c) ∧ (([69, 117, 114, 111, 112, 101, 97, 110, 95, 84, 101, 114, 109, 105, 110, 97, 116, 111, 114] : List UInt8) = longS c) := ⟨(by subst_vars; kernel_rfl), (by subst_vars; kernel_rfl)⟩
              exact ⟨tup2 (congrArg S hE.1) (congrArg S hE.2), hb⟩
            · intro h12
              replace h12 : c ≠ 6 := by omega
              refine L_as (L_nil (thenQ_normal (W_false (by kernel_rfl) (W_seq (W_region (L_cmp .u8 c 7 (c = 7) rfl (cmp_eq c 7) (by kernel_rfl) (by kernel_rfl) ?_ ?_))))))
              · intro h13
                replace h13 : c = 7 := by omega
                refine L_as (L_nil (thenQ_normal (W_true (by kernel_rfl) (W_seq (W_region (L_as (L_as (L_nil (thenQ_normal (W_ret (blkQ_ret (thenQ_ret ?_))))))))))))
                refine end_ret [.tmp 2, .tmp 3] [(S ([65, 78] : List UInt8)), (S ([65, 114, 97, 98, 105, 99, 95, 78, 117, 109, 98, 101, 114] : List UInt8))] rfl rfl ⟨by kernel_rfl, by kernel_rfl, trivial⟩ ?_
                have hE : (([65, 78] : List UInt8) = shortS c) ∧ (([65, 114, 97, 98, 105, 99, 95, 78, 117, 109, 98, 101, 114] : List UInt8) = longS c) := ⟨(by subst_vars; kernel_rfl), (by subst_vars; kernel_rfl)⟩
                exact ⟨tup2 (congrArg S hE.1) (congrArg S hE.2), hb⟩
              · intro h14
                replace h14 : c ≠ 7 := by omega
                refine L_as (L_nil (thenQ_normal (W_false (by kernel_rfl) (W_seq (W_region (L_cmp .u8 c 8 (c = 8) rfl (cmp_eq c 8) (by kernel_rfl) (by kernel_rfl) ?_ ?_))))))
                · intro h15
                  replace h15 : c = 8 := by omega
                  refine L_as (L_nil (thenQ_normal (W_true (by kernel_rfl) (W_seq (W_region (L_as (L_as (L_nil (thenQ_normal (W_ret (blkQ_ret (thenQ_ret ?_))))))))))))
                  refine end_ret [.tmp 2, .tmp 3] [(S ([67, 83] : List UInt8)), (S ([67, 111, 109, 109, 111, 110, 95, 83, 101, 112, 97, 114, 97, 116, 111, 114] : List UInt8))] rfl rfl ⟨by kernel_rfl, by kernel_rfl, trivial⟩ ?_
                  have hE : (([67, 83] : List UInt8) = shortS c) ∧ (([67, 111, 109, 109, 111, 110, 95, 83, 101, 112, 97, 114, 97, 116, 111, 114] : List UInt8) = longS c) := ⟨(by subst_vars; kernel_rfl), (by subst_vars; kernel_rfl)⟩
                  exact ⟨tup2 (congrArg S hE.1) (congrArg S hE.2), hb⟩
                · intro h16
                  replace h16 : c ≠ 8 := by omega
                  refine L_as (L_nil (thenQ_normal (W_false (by kernel_rfl) (W_seq (W_region (L_cmp .u8 c 9 (c = 9) rfl (cmp_eq c 9) (by kernel_rfl) (by kernel_rfl) ?_ ?_))))))
                  · intro h17
                    replace h17 : c = 9 := by omega
                    refine L_as (L_nil (thenQ_normal (W_true (by kernel_rfl) (W_seq (W_region (L_as (L_as (L_nil (thenQ_normal (W_ret (blkQ_ret (thenQ_ret ?_))))))))))))
                    refine end_ret [.tmp 2, .tmp 3] [(S ([78, 83, 77] : List UInt8)), (S ([78, 111, 110, 115, 112, 97, 99, 105, 110, 103, 95, 77, 97, 114, 107] : List UInt8))] rfl rfl ⟨by kernel_rfl, by kernel_rfl, trivial⟩ ?_
                    have hE : (([78, 83, 77] : List UInt8) = shortS c) ∧ (([78, 111, 110, 115, 112, 97, 99, 105, 110, 103, 95, 77, 97, 114, 107] : List UInt8) = longS c) := ⟨(by subst_vars; kernel_rfl), (by subst_vars; kernel_rfl)⟩
                    exact ⟨tup2 (congrArg S hE.1) (congrArg S hE.2), hb⟩
                  · intro h18
                    replace h18 : c ≠ 9 := by omega
                    refine L_as (L_nil (thenQ_normal (W_false (by kernel_rfl) (W_seq (W_region (L_cmp .u8 c 10 (c = 10) rfl (cmp_eq c 10) (by kernel_rfl) (by kernel_rfl) ?_ ?_))))))
                    · intro h19
                      replace h19 : c = 10 := by omega
                      refine L_as (L_nil (thenQ_normal (W_true (by kernel_rfl) (W_seq (W_region (L_as (L_as (L_nil (thenQ_normal (W_ret (blkQ_ret (thenQ_ret ?_))))))))))))
                      refine end_ret [.tmp 2, .tmp 3] [(S ([66, 78] : List UInt8)), (S ([66, 111, 117, 110, 100, 97, 114, 121, 95, 78, 101, 117, 116, 114, 97, 108] : List UInt8))] rfl rfl ⟨by kernel_rfl, by kernel_rfl, trivial⟩ ?_
                      have hE : (([66, 78] : List UInt8) = shortS c) ∧ (([66, 111, 117, 110, 100, 97, 114, 121, 95, 78, 101, 117, 116, 114, 97, 108] : List UInt8) = longS c) := ⟨(by subst_vars; kernel_rfl), (by subst_vars; kernel_rfl)⟩
                      exact ⟨tup2 (congrArg S hE.1) (congrArg S hE.2), hb⟩
                    · intro h20
                      replace h20 : c ≠ 10 := by omega
                      refine L_as (L_nil (thenQ_normal (W_false (by kernel_rfl) (W_seq (W_region (L_cmp .u8 c 11 (c = 11) rfl (cmp_eq c 11) (by kernel_rfl) (by kernel_rfl) ?_ ?_))))))
                      · intro h21
                        replace h21 : c = 11 := by omega
                        refine L_as (L_nil (thenQ_normal (W_true (by kernel_rfl) (W_seq (W_region (L_as (L_as (L_nil (thenQ_normal (W_ret (blkQ_ret (thenQ_ret ?_))))))))))))
                        refine end_ret [.tmp 2, .tmp 3] [(S ([66] : List UInt8)), (S ([80, 97, 114, 97, 103, 114, 97, 112, 104, 95, 83, 101, 112, 97, 114, 97, 116, 111, 114] : List UInt8))] rfl rfl ⟨by kernel_rfl, by kernel_rfl, trivial⟩ ?_
                        have hE : (([66] : List UInt8) = shortS c) ∧ (([80, 97, 114, 97, 103, 114, 97, 112, 104, 95, 83, 101, 112, 97, 114, 97, 116, 111, 114] : List UInt8) = longS c) := ⟨(by subst_vars; kernel_rfl), (by subst_vars; kernel_rfl)⟩
                        exact ⟨tup2 (congrArg S hE.1) (congrArg S hE.2), hb⟩
                      · intro h22
                        replace h22 : c ≠ 11 := by omega
                        refine L_as (L_nil (thenQ_normal (W_false (by kernel_rfl) (W_seq (W_region (L_cmp .u8 c 12 (c = 12) rfl (cmp_eq c 12) (by kernel_rfl) (by kernel_rfl) ?_ ?_))))))
                        · intro h23
                          replace h23 : c = 12 := by omega
                          refine L_as (L_nil (thenQ_normal (W_true (by kernel_rfl) (W_seq (W_region (L_as (L_as (L_nil (thenQ_normal (W_ret (blkQ_ret (thenQ_ret ?_))))))))))))
                          refine end_ret [.tmp 2, .tmp 3] [(S ([83] : List UInt8)), (S ([83, 101, 103, 109, 101, 110, 116, 95, 83, 101, 112, 97, 114, 97, 116, 111, 114] : List UInt8))] rfl rfl ⟨by kernel_rfl, by kernel_rfl, trivial⟩ ?_
                          have hE : (([83] : List UInt8) = shortS c) ∧ (([83, 101, 103, 109, 101, 110, 116, 95, 83, 101, 112, 97, 114, 97, 116, 111, 114] : List UInt8) = longS c) := ⟨(by subst_vars; kernel_rfl), (by subst_vars; kernel_rfl)⟩
                          exact ⟨tup2 (congrArg S hE.1) (congrArg S hE.2), hb⟩
                        · intro h24
                          replace h24 : c ≠ 12 := by omega
                          refine L_as (L_nil (thenQ_normal (W_false (by kernel_rfl) (W_seq (W_region (L_cmp .u8 c 13 (c = 13) rfl (cmp_eq c 13) (by kernel_rfl) (by kernel_rfl) ?_ ?_))))))
                          · intro h25
                            replace h25 : c = 13 := by omega
                            refine L_as (L_nil (thenQ_normal (W_true (by kernel_rfl) (W_seq (W_region (L_as (L_as (L_nil (thenQ_normal (W_ret (blkQ_ret (thenQ_ret ?_))))))))))))
                            refine end_ret [.tmp 2, .tmp 3] [(S ([87, 83] : List UInt8)), (S ([87, 104, 105, 116, 101, 95, 83, 112, 97, 99, 101] : List UInt8))] rfl rfl ⟨by kernel_rfl, by kernel_rfl, trivial⟩ ?_
                            have hE : (([87, 83] : List UInt8) = shortS c) ∧ (([87, 104, 105, 116, 101, 95, 83, 112, 97, 99, 101] : List UInt8) = longS c) := ⟨(by subst_vars; kernel_rfl), (by subst_vars; kernel_rfl)⟩
                            exact ⟨tup2 (congrArg S hE.1) (congrArg S hE.2), hb⟩
                          · intro h26
                            replace h26 : c ≠ 13 := by omega
                            refine L_as (L_nil (thenQ_normal (W_false (by kernel_rfl) (W_seq (W_region (L_cmp .u8 c 14 (c = 14) rfl (cmp_eq c 14) (by kernel_rfl) (by kernel_rfl) ?_ ?_))))))
                            · intro h27
                              replace h27 : c = 14 := by omega
                              refine L_as (L_nil (thenQ_normal (W_true (by kernel_rfl) (W_seq (W_region (L_as (L_as (L_nil (thenQ_normal (W_ret (blkQ_ret (thenQ_ret ?_))))))))))))
                              refine end_ret [.tmp 2, .tmp 3] [(S ([79, 78] : List UInt8)), (S ([79, 116, 104, 101, 114, 95, 78, 101, 117, 116, 114, 97, 108] : List UInt8))] rfl rfl ⟨by kernel_rfl, by kernel_rfl, trivial⟩ ?_
                              have hE : (([79, 78] : List UInt8) = shortS c) ∧ (([79, 116, 104, 101, 114, 95, 78, 101, 117, 116, 114, 97, 108] : List UInt8) = longS c) := ⟨(by subst_vars; kernel_rfl), (by subst_vars; kernel_rfl)⟩
                              exact ⟨tup2 (congrArg S hE.1) (congrArg S hE.2), hb⟩
                            · intro h28
                              replace h28 : c ≠ 14 := by omega
                              refine L_as (L_nil (thenQ_normal (W_false (by kernel_rfl) (W_skip (blkQ_normal (thenQ_normal (W_seq (W_region (L_mv (L_call 48 [(.int .u8 c)] (by kernel_rfl) (by kernel_rfl) (c_words_formats c _ ) ?_))))))))))
                              rintro _ w29 ⟨rfl, hB30⟩
                              replace hb := hb.trans (hB30.mono hs)
                              replace hs := Nat.le_trans hs (hB30.size)
                              refine L_run (S (shortF c)) (by kernel_rfl) (by kernel_rfl) (L_run (S (longF c)) (by kernel_rfl) (by kernel_rfl) (L_as (L_as (L_nil (thenQ_normal (W_ret ?_))))))
                              refine end_ret [.tmp 2, .tmp 3] [(S (shortF c)), (S (longF c))] rfl rfl ⟨by kernel_rfl, by kernel_rfl, trivial⟩ ?_
                              have hE : (shortF c = shortS c) ∧ (longF c = longS c) := ⟨(by rw [shortF_eq (by omega)]), (by rw [longF_eq (by omega)])⟩
                              exact ⟨tup2 (congrArg S hE.1) (congrArg S hE.2), hb⟩

set_option maxHeartbeats 4000000 in
set_option maxRecDepth 100000 in
theorem c_words_Short (c : Int) (w : World) (hc : 0 ≤ c) :
    Calls Try.prog 27 #[(.int .u8 c)] w (Ret fun v w' => v = (.tuple #[(S (shortS c)), (.int .i64 (toldE c))]) ∧ Below w.heap.size w w') := by
  refine enter (args := [(.int .u8 c)]) Try.func27 rfl (by kernel_rfl : _ = 14) (by kernel_rfl) ?_
  have hb := Below.refl w.heap.size w
  have hs : w.heap.size ≤ w.heap.size := Nat.le_refl _
  refine W_seq (W_region (L_as (L_as (L_nil (thenQ_normal (W_seq (W_region (L_mv (L_call 44 [(.int .u8 c)] (by kernel_rfl) (by kernel_rfl) (c_words_names c _ (by omega)) ?_)))))))))
  rintro _ w1 ⟨rfl, hB2⟩
  replace hb := hb.trans (hB2.mono hs)
  replace hs := Nat.le_trans hs (hB2.size)
  have := shortS_len c
  have := longS_len c
  refine L_mv (L_run (S (shortS c)) (by kernel_rfl) (by kernel_rfl) (L_run (S (longS c)) (by kernel_rfl) (by kernel_rfl) (L_as (L_as (L_nil (thenQ_normal (W_seq (W_seq (W_region (L_mv (L_seq (shortS c) ([] : List UInt8) rfl (by kernel_rfl) (by kernel_rfl) ?_ ?_)))))))))))
  · intro h4
    refine L_nil (thenQ_normal (W_true (by kernel_rfl) (W_seq (W_region (L_as (L_as (L_nil (thenQ_normal (W_ret (thenQ_ret ?_))))))))))
    refine end_ret [.tmp 2, .tmp 3] [(S ([] : List UInt8)), (.int .i64 2)] rfl rfl ⟨by kernel_rfl, by kernel_rfl, trivial⟩ ?_
    have hE : (([] : List UInt8) = shortS c) ∧ ((2 : Int) = toldE c) := ⟨(by first | rfl | (simp [*]; done)), (by first | (rw [shortS_nil] at *; simp [toldE, *]; done) | (have hx := mt shortS_nil.2 (by assumption); simp at hx; simp [toldE, hx]))⟩
    exact ⟨tup2 (congrArg S hE.1) (congrArg (Value.int .i64) hE.2), hb⟩
  · intro h5
    refine L_nil (thenQ_normal (W_false (by kernel_rfl) (W_skip (thenQ_normal (W_seq (W_region (L_mv (L_as (L_as (L_nil (thenQ_normal (W_ret ?_))))))))))))
    refine end_ret [.tmp 2, .tmp 3] [(S (shortS c)), (.int .i64 0)] rfl rfl ⟨by kernel_rfl, by kernel_rfl, trivial⟩ ?_
    have hE : (shortS c = shortS c) ∧ ((0 : Int) = toldE c) := ⟨(by first | rfl | (simp [*]; done)), (by first | (rw [shortS_nil] at *; simp [toldE, *]; done) | (have hx := mt shortS_nil.2 (by assumption); simp at hx; simp [toldE, hx]))⟩
    exact ⟨tup2 (congrArg S hE.1) (congrArg (Value.int .i64) hE.2), hb⟩

set_option maxHeartbeats 4000000 in
set_option maxRecDepth 100000 in
theorem c_words_Long (c : Int) (w : World) (hc : 0 ≤ c) :
    Calls Try.prog 28 #[(.int .u8 c)] w (Ret fun v w' => v = (.tuple #[(S (longS c)), (.int .i64 (toldE c))]) ∧ Below w.heap.size w w') := by
  refine enter (args := [(.int .u8 c)]) Try.func28 rfl (by kernel_rfl : _ = 14) (by kernel_rfl) ?_
  have hb := Below.refl w.heap.size w
  have hs : w.heap.size ≤ w.heap.size := Nat.le_refl _
  refine W_seq (W_region (L_as (L_as (L_nil (thenQ_normal (W_seq (W_region (L_mv (L_call 44 [(.int .u8 c)] (by kernel_rfl) (by kernel_rfl) (c_words_names c _ (by omega)) ?_)))))))))
  rintro _ w1 ⟨rfl, hB2⟩
  replace hb := hb.trans (hB2.mono hs)
  replace hs := Nat.le_trans hs (hB2.size)
  have := shortS_len c
  have := longS_len c
  refine L_mv (L_run (S (shortS c)) (by kernel_rfl) (by kernel_rfl) (L_run (S (longS c)) (by kernel_rfl) (by kernel_rfl) (L_as (L_as (L_nil (thenQ_normal (W_seq (W_seq (W_region (L_mv (L_seq (longS c) ([] : List UInt8) rfl (by kernel_rfl) (by kernel_rfl) ?_ ?_)))))))))))
  · intro h4
    refine L_nil (thenQ_normal (W_true (by kernel_rfl) (W_seq (W_region (L_as (L_as (L_nil (thenQ_normal (W_ret (thenQ_ret ?_))))))))))
    refine end_ret [.tmp 2, .tmp 3] [(S ([] : List UInt8)), (.int .i64 2)] rfl rfl ⟨by kernel_rfl, by kernel_rfl, trivial⟩ ?_
    have hE : (([] : List UInt8) = longS c) ∧ ((2 : Int) = toldE c) := ⟨(by first | rfl | (simp [*]; done)), (by first | (rw [longS_nil] at *; simp [toldE, *]; done) | (have hx := mt longS_nil.2 (by assumption); simp at hx; simp [toldE, hx]))⟩
    exact ⟨tup2 (congrArg S hE.1) (congrArg (Value.int .i64) hE.2), hb⟩
  · intro h5
    refine L_nil (thenQ_normal (W_false (by kernel_rfl) (W_skip (thenQ_normal (W_seq (W_region (L_mv (L_as (L_as (L_nil (thenQ_normal (W_ret ?_))))))))))))
    refine end_ret [.tmp 2, .tmp 3] [(S (longS c)), (.int .i64 0)] rfl rfl ⟨by kernel_rfl, by kernel_rfl, trivial⟩ ?_
    have hE : (longS c = longS c) ∧ ((0 : Int) = toldE c) := ⟨(by first | rfl | (simp [*]; done)), (by first | (rw [longS_nil] at *; simp [toldE, *]; done) | (have hx := mt longS_nil.2 (by assumption); simp at hx; simp [toldE, hx]))⟩
    exact ⟨tup2 (congrArg S hE.1) (congrArg (Value.int .i64) hE.2), hb⟩

set_option maxHeartbeats 4000000 in
set_option maxRecDepth 100000 in
theorem c_words_Letter (c : Int) (w : World) :
    Calls Try.prog 29 #[(.int .u8 c)] w (Ret fun v w' => v = (.tuple #[(S (letterS c)), (.int .i64 (letterE c))]) ∧ Below w.heap.size w w') := by
  refine enter (args := [(.int .u8 c)]) Try.func29 rfl (by kernel_rfl : _ = 11) (by kernel_rfl) ?_
  have hb := Below.refl w.heap.size w
  have hs : w.heap.size ≤ w.heap.size := Nat.le_refl _
  refine W_seq (W_region (L_as (L_as (L_nil (thenQ_normal (W_seq (W_seq (W_region (L_mv (L_nil (thenQ_normal (W_block (W_seq (W_region (L_cmp .u8 c 0 (c = 0) rfl (cmp_eq c 0) (by kernel_rfl) (by kernel_rfl) ?_ ?_)))))))))))))))
  · intro h1
    replace h1 : c = 0 := by omega
    refine L_as (L_nil (thenQ_normal (W_true (by kernel_rfl) (W_seq (W_region (L_as (L_as (L_nil (thenQ_normal (W_ret (blkQ_ret (thenQ_ret ?_))))))))))))
    refine end_ret [.tmp 2, .tmp 3] [(S ([110] : List UInt8)), (.int .i64 0)] rfl rfl ⟨by kernel_rfl, by kernel_rfl, trivial⟩ ?_
    have hE : (([110] : List UInt8) = letterS c) ∧ ((0 : Int) = letterE c) := ⟨(by simp [letterS, *]), (by simp [letterE, *])⟩
    exact ⟨tup2 (congrArg S hE.1) (congrArg (Value.int .i64) hE.2), hb⟩
  · intro h2
    replace h2 : c ≠ 0 := by omega
    refine L_as (L_nil (thenQ_normal (W_false (by kernel_rfl) (W_seq (W_region (L_cmp .u8 c 1 (c = 1) rfl (cmp_eq c 1) (by kernel_rfl) (by kernel_rfl) ?_ ?_))))))
    · intro h3
      replace h3 : c = 1 := by omega
      refine L_as (L_nil (thenQ_normal (W_true (by kernel_rfl) (W_seq (W_region (L_as (L_as (L_nil (thenQ_normal (W_ret (blkQ_ret (thenQ_ret ?_))))))))))))
      refine end_ret [.tmp 2, .tmp 3] [(S ([111] : List UInt8)), (.int .i64 0)] rfl rfl ⟨by kernel_rfl, by kernel_rfl, trivial⟩ ?_
      have hE : (([111] : List UInt8) = letterS c) ∧ ((0 : Int) = letterE c) := ⟨(by simp [letterS, *]), (by simp [letterE, *])⟩
      exact ⟨tup2 (congrArg S hE.1) (congrArg (Value.int .i64) hE.2), hb⟩
    · intro h4
      replace h4 : c ≠ 1 := by omega
      refine L_as (L_nil (thenQ_normal (W_false (by kernel_rfl) (W_seq (W_region (L_cmp .u8 c 2 (c = 2) rfl (cmp_eq c 2) (by kernel_rfl) (by kernel_rfl) ?_ ?_))))))
      · intro h5
        replace h5 : c = 2 := by omega
        refine L_as (L_nil (thenQ_normal (W_true (by kernel_rfl) (W_seq (W_region (L_as (L_as (L_nil (thenQ_normal (W_ret (blkQ_ret (thenQ_ret ?_))))))))))))
        refine end_ret [.tmp 2, .tmp 3] [(S ([99] : List UInt8)), (.int .i64 0)] rfl rfl ⟨by kernel_rfl, by kernel_rfl, trivial⟩ ?_
        have hE : (([99] : List UInt8) = letterS c) ∧ ((0 : Int) = letterE c) := ⟨(by simp [letterS, *]), (by simp [letterE, *])⟩
        exact ⟨tup2 (congrArg S hE.1) (congrArg (Value.int .i64) hE.2), hb⟩
      · intro h6
        replace h6 : c ≠ 2 := by omega
        refine L_as (L_nil (thenQ_normal (W_false (by kernel_rfl) (W_skip (blkQ_normal (thenQ_normal (W_seq (W_region (L_as (L_as (L_nil (thenQ_normal (W_ret ?_)))))))))))))
        refine end_ret [.tmp 2, .tmp 3] [(S ([] : List UInt8)), (.int .i64 2)] rfl rfl ⟨by kernel_rfl, by kernel_rfl, trivial⟩ ?_
        have hE : (([] : List UInt8) = letterS c) ∧ ((2 : Int) = letterE c) := ⟨(by simp [letterS, *]), (by simp [letterE, *])⟩
        exact ⟨tup2 (congrArg S hE.1) (congrArg (Value.int .i64) hE.2), hb⟩

set_option maxHeartbeats 4000000 in
set_option maxRecDepth 100000 in
theorem c_words_Class (s : List UInt8) (w : World) (hs : s.length ≤ 1073741824) :
    Calls Try.prog 21 #[(S s)] w (Ret fun v w' => v = (.tuple #[(.int .u8 ((classF s).1)), (.int .i64 ((classF s).2))]) ∧ Below w.heap.size w w') := by
  refine enter (args := [(S s)]) Try.func21 rfl (by kernel_rfl : _ = 25) (by kernel_rfl) ?_
  have hb := Below.refl w.heap.size w
  have hs : w.heap.size ≤ w.heap.size := Nat.le_refl _
  refine W_seq (W_region (L_as (L_as (L_nil (thenQ_normal (W_seq (W_seq (W_region (L_as (L_nil (thenQ_normal (W_block ?_))))))))))))
  refine W_loop (fun m s0 w0 => ∃ (c : Int), (m = (24 - c).toNat) ∧ (s0.ds = []) ∧ (s0.f 0 = (S s)) ∧ (s0.f 4 = (.int .u8 c)) ∧ (Below w.heap.size w w0) ∧ (w.heap.size ≤ w0.heap.size) ∧ (1 ≤ c) ∧ (c ≤ 24) ∧ (classFrom s c = classF s)) _ ⟨1, rfl, by kernel_rfl, by kernel_rfl, by kernel_rfl, hb, hs, by omega, by omega, rfl⟩ ?_
  rintro m1 s2 w3 ⟨c, hm, hds, f_0, f_4, hb, hs, i1, i2, i3⟩
  refine W_set 0 _ f_0 (W_set 4 _ f_4 ?_)
  clear f_0 f_4
  refine W_seq (W_seq (W_region (L_mv (L_cmp .u8 c 23 (c ≤ 23) rfl (cmp_le c 23) (by kernel_rfl) (by kernel_rfl) ?_ ?_))))
  · intro h4
    replace h4 : c ≤ 23 := by omega
    refine L_nil (thenQ_normal (W_true (by kernel_rfl) (W_skip (thenQ_normal (W_seq (W_block (W_seq (W_region (L_mv (L_call 44 [(.int .u8 c)] (by kernel_rfl) (by kernel_rfl) (c_words_names c _ (by omega)) ?_))))))))))
    rintro _ w5 ⟨rfl, hB6⟩
    replace hb := hb.trans (hB6.mono hs)
    replace hs := Nat.le_trans hs (hB6.size)
    have := shortS_len c
    have := longS_len c
    refine L_mv (L_run (S (shortS c)) (by kernel_rfl) (by kernel_rfl) (L_run (S (longS c)) (by kernel_rfl) (by kernel_rfl) (L_as (L_as (L_nil (thenQ_normal (W_seq (W_region (L_mv (L_mv (L_call 20 [(S s), (S (shortS c))] (by kernel_rfl) (by kernel_rfl) (c_words_Alike s (shortS c) _ (by omega) (by omega)) ?_)))))))))))
    rintro _ w8 ⟨rfl, hB9⟩
    replace hb := hb.trans (hB9.mono hs)
    replace hs := Nat.le_trans hs (hB9.size)
    refine put_split (alikeB s (shortS c)) ?_ ?_
    · intro h11
      refine L_mv (L_skip (by kernel_rfl) (L_skip (by kernel_rfl) (L_skip (by kernel_rfl) (L_pickT (by kernel_rfl) (L_nil (thenQ_normal (W_true (by kernel_rfl) (W_seq (W_region (L_mv (L_as (L_as (L_nil (thenQ_normal (W_ret (blkQ_ret (thenQ_ret (thenQ_ret (blkQ_ret (thenQ_ret ?_))))))))))))))))))))
      refine end_ret [.tmp 2, .tmp 3] [(.int .u8 c), (.int .i64 0)] rfl hds ⟨by kernel_rfl, by kernel_rfl, trivial⟩ ?_
      have hE : ((c : Int) = (classF s).1) ∧ ((0 : Int) = (classF s).2) := ⟨(by first | (rw [← i3, classFrom_end (c := c) (by omega)]; done) | (rw [← i3, classFrom_step (c := c) (by omega)]; simp [*]; done)), (by first | (rw [← i3, classFrom_end (c := c) (by omega)]; done) | (rw [← i3, classFrom_step (c := c) (by omega)]; simp [*]; done))⟩
      exact ⟨tup2 (congrArg (Value.int .u8) hE.1) (congrArg (Value.int .i64) hE.2), hb⟩
    · intro h12
      refine L_mv (L_want (by kernel_rfl) (L_mv (L_want (by kernel_rfl) (L_mv (L_want (by kernel_rfl) (L_call 20 [(S s), (S (longS c))] (by kernel_rfl) (by kernel_rfl) (c_words_Alike s (longS c) _ (by omega) (by omega)) ?_))))))
      rintro _ w13 ⟨rfl, hB14⟩
      replace hb := hb.trans (hB14.mono hs)
      replace hs := Nat.le_trans hs (hB14.size)
      refine put_split (alikeB s (longS c)) ?_ ?_
      · intro h16
        refine L_pickF (by kernel_rfl) (L_nil (thenQ_normal (W_true (by kernel_rfl) (W_seq (W_region (L_mv (L_as (L_as (L_nil (thenQ_normal (W_ret (blkQ_ret (thenQ_ret (thenQ_ret (blkQ_ret (thenQ_ret ?_))))))))))))))))
        refine end_ret [.tmp 2, .tmp 3] [(.int .u8 c), (.int .i64 0)] rfl hds ⟨by kernel_rfl, by kernel_rfl, trivial⟩ ?_
        have hE : ((c : Int) = (classF s).1) ∧ ((0 : Int) = (classF s).2) := ⟨(by first | (rw [← i3, classFrom_end (c := c) (by omega)]; done) | (rw [← i3, classFrom_step (c := c) (by omega)]; simp [*]; done)), (by first | (rw [← i3, classFrom_end (c := c) (by omega)]; done) | (rw [← i3, classFrom_step (c := c) (by omega)]; simp [*]; done))⟩
        exact ⟨tup2 (congrArg (Value.int .u8) hE.1) (congrArg (Value.int .i64) hE.2), hb⟩
      · intro h17
        refine L_pickF (by kernel_rfl) (L_nil (thenQ_normal (W_false (by kernel_rfl) (W_skip (blkQ_normal (thenQ_normal (W_region (L_mv (L_arith c 1 (c + 1) rfl (by kernel_rfl) (by kernel_rfl) (wrap_u8 _ (by simp only [arithZ]; omega) (by simp only [arithZ]; omega)) (L_as (L_nil ?_)))))))))))
        refine thenQ_normal ⟨_, ?_, (c + 1), rfl, hds, by kernel_rfl, by kernel_rfl, hb, hs, ?_, ?_, ?_⟩
        · omega
        · omega
        · omega
        · rw [← i3, classFrom_step (c := c) (by omega)]; simp [*]
  · intro h18
    replace h18 : 23 < c := by omega
    refine L_nil (thenQ_normal (W_false (by kernel_rfl) (W_exit (thenQ_exit (thenQ_exit (blkQ_exit (thenQ_normal (W_seq (W_region (L_as (L_as (L_nil (thenQ_normal (W_ret ?_))))))))))))))
    refine end_ret [.tmp 2, .tmp 3] [(.int .u8 0), (.int .i64 50)] rfl hds ⟨by kernel_rfl, by kernel_rfl, trivial⟩ ?_
    have hE : ((0 : Int) = (classF s).1) ∧ ((50 : Int) = (classF s).2) := ⟨(by first | (rw [← i3, classFrom_end (c := c) (by omega)]; done) | (rw [← i3, classFrom_step (c := c) (by omega)]; simp [*]; done)), (by first | (rw [← i3, classFrom_end (c := c) (by omega)]; done) | (rw [← i3, classFrom_step (c := c) (by omega)]; simp [*]; done))⟩
    exact ⟨tup2 (congrArg (Value.int .u8) hE.1) (congrArg (Value.int .i64) hE.2), hb⟩

set_option maxHeartbeats 4000000 in
set_option maxRecDepth 100000 in
theorem c_words_Classes (s : List UInt8) (w : World) (hs : s.length ≤ 1073741824) :
    Calls Try.prog 33 #[(S s)] w (Ret fun v w' => ∃ (q0 : Value), v = (.tuple #[q0, (.int .i64 ((classesF s).2.1)), (.int .i64 ((classesF s).2.2))]) ∧ Row w' w.heap.size 34 1 encU8 q0 ((classesF s).1) ∧ Below w.heap.size w w') := by
  refine enterM (args := [(S s)]) Try.func33 rfl (by kernel_rfl : _ = 28) (by kernel_rfl) ?_
  have hb := Below.refl w.heap.size w
  have hs : w.heap.size ≤ w.heap.size := Nat.le_refl _
  refine W_seq (W_region (L_new (fun b => .pointer (some ⟨b, 0, none⟩)) (.cells [(.slice none 0 0)].toArray 49 (0, 0)) (by kernel_rfl) (by kernel_rfl) ?_))
  intro b1 w2 hN3
  have g_x2 : w.heap.size ≤ b1 := by rw [hN3.num]; exact hs
  replace hb := hb.trans (hN3.below.mono hs)
  replace hs := Nat.le_trans hs (hN3.below.size)
  have o_x2 := hN3.here
  refine L_new (fun b => .pointer (some ⟨b, 0, none⟩)) (.cells [(.int .i64 0)].toArray 3 (0, 0)) (by kernel_rfl) (by kernel_rfl) ?_
  intro b4 w5 hN6
  have ne_x2_x3 : b1 ≠ b4 := by have := obj_lt o_x2; have := hN6.num; omega
  have ne_x3_x2 := ne_x2_x3.symm
  have g_x3 : w.heap.size ≤ b4 := by rw [hN6.num]; exact hs
  replace hb := hb.trans (hN6.below.mono hs)
  replace hs := Nat.le_trans hs (hN6.below.size)
  replace o_x2 := obj_below o_x2 hN6.below
  have o_x3 := hN6.here
  refine L_new (fun b => .pointer (some ⟨b, 0, none⟩)) (.cells [(.int .i64 0)].toArray 35 (0, 0)) (by kernel_rfl) (by kernel_rfl) ?_
  intro b7 w8 hN9
  have ne_x2_x4 : b1 ≠ b7 := by have := obj_lt o_x2; have := hN9.num; omega
  have ne_x4_x2 := ne_x2_x4.symm
  have ne_x3_x4 : b4 ≠ b7 := by have := obj_lt o_x3; have := hN9.num; omega
  have ne_x4_x3 := ne_x3_x4.symm
  have g_x4 : w.heap.size ≤ b7 := by rw [hN9.num]; exact hs
  replace hb := hb.trans (hN9.below.mono hs)
  replace hs := Nat.le_trans hs (hN9.below.size)
  replace o_x2 := obj_below o_x2 hN9.below
  replace o_x3 := obj_below o_x3 hN9.below
  have o_x4 := hN9.here
  refine L_nil (thenQ_normal (W_seq (W_region (L_new (fun b => .pointer (some ⟨b, 0, none⟩)) (.cells [(.slice none 0 0)].toArray 49 (0, 0)) (by kernel_rfl) (by kernel_rfl) ?_))))
  intro b10 w11 hN12
  have ne_x2_x5 : b1 ≠ b10 := by have := obj_lt o_x2; have := hN12.num; omega
  have ne_x5_x2 := ne_x2_x5.symm
  have ne_x3_x5 : b4 ≠ b10 := by have := obj_lt o_x3; have := hN12.num; omega
  have ne_x5_x3 := ne_x3_x5.symm
  have ne_x4_x5 : b7 ≠ b10 := by have := obj_lt o_x4; have := hN12.num; omega
  have ne_x5_x4 := ne_x4_x5.symm
  have g_x5 : w.heap.size ≤ b10 := by rw [hN12.num]; exact hs
  replace hb := hb.trans (hN12.below.mono hs)
  replace hs := Nat.le_trans hs (hN12.below.size)
  replace o_x2 := obj_below o_x2 hN12.below
  replace o_x3 := obj_below o_x3 hN12.below
  replace o_x4 := obj_below o_x4 hN12.below
  have o_x5 := hN12.here
  refine L_nil (thenQ_normal (W_seq (W_seq (W_region (L_mv (L_call 17 [(S s)] (by kernel_rfl) (by kernel_rfl) (c_words_Each s _ ) ?_))))))
  rintro _ w13 ⟨cb16, rfl, o_cb16, g_cb16, hB14⟩
  have ne_x2_cb16 : b1 ≠ cb16 := by have := obj_lt o_x2; omega
  have ne_cb16_x2 := ne_x2_cb16.symm
  have ne_x3_cb16 : b4 ≠ cb16 := by have := obj_lt o_x3; omega
  have ne_cb16_x3 := ne_x3_cb16.symm
  have ne_x4_cb16 : b7 ≠ cb16 := by have := obj_lt o_x4; omega
  have ne_cb16_x4 := ne_x4_cb16.symm
  have ne_x5_cb16 : b10 ≠ cb16 := by have := obj_lt o_x5; omega
  have ne_cb16_x5 := ne_x5_cb16.symm
  replace g_cb16 := Nat.le_trans hs g_cb16
  replace hb := hb.trans (hB14.mono hs)
  replace hs := Nat.le_trans hs (hB14.size)
  replace o_x2 := obj_below o_x2 hB14
  replace o_x3 := obj_below o_x3 hB14
  replace o_x4 := obj_below o_x4 hB14
  replace o_x5 := obj_below o_x5 hB14
  refine L_nil (thenQ_normal (W_block ?_))
  have lt_x2_0 : b1 < w13.heap.size := obj_lt o_x2
  have lt_x3_0 : b4 < w13.heap.size := obj_lt o_x3
  have lt_x4_0 : b7 < w13.heap.size := obj_lt o_x4
  have lt_x5_0 : b10 < w13.heap.size := obj_lt o_x5
  have lt_cb16_0 : cb16 < w13.heap.size := obj_lt o_cb16
  have hs_0 := hs
  have hb_0 := hb
  refine W_range 40 [(.pointer (some ⟨cb16, 0, none⟩))] (wordsOf s) (by kernel_rfl) (fun _ _ => rfl) (it_words_Each_1 cb16 s (by omega)) o_cb16 ((fun D A B h hc hd => obj_ch h hc (fun h => Nat.not_lt.2 (hd _ h) lt_cb16_0))) (by intro x; rfl) (fun K pre A => ∃ (acc : List Int) (v_x5_0 : Value), (A.heap[b1]? = some (.cells [(.slice none 0 0)].toArray 49 (0, 0))) ∧ (A.heap[b4]? = some (.cells [(.int .i64 0)].toArray 3 (0, 0))) ∧ (A.heap[b7]? = some (.cells [(.int .i64 0)].toArray 35 (0, 0))) ∧ (A.heap[b10]? = some (.cells [v_x5_0].toArray 49 (0, 0))) ∧ (A.heap[cb16]? = some (.cells [(S s)].toArray 9 (0, 0))) ∧ (Row A w.heap.size 34 1 encU8 v_x5_0 acc) ∧ (∀ g, Value.ownBlock v_x5_0 = some g → ¬ Iv w13.heap.size K g) ∧ (Below w.heap.size w A) ∧ (acc.length ≤ pre.length) ∧ (pre.foldl cstep ([], 0, 0) = (acc, 0, 0))) (fun K c pre A => (∃ (a : Int) (e : Int), (c = .ret) ∧ (A.heap[b1]? = some (.cells [(.slice none 0 0)].toArray 49 (0, 0))) ∧ (A.heap[b4]? = some (.cells [(.int .i64 a)].toArray 3 (0, 0))) ∧ (A.heap[b7]? = some (.cells [(.int .i64 e)].toArray 35 (0, 0))) ∧ (A.heap[cb16]? = some (.cells [(S s)].toArray 9 (0, 0))) ∧ (Below w.heap.size w A) ∧ (pre.foldl cstep ([], 0, 0) = ([], a, e)) ∧ (e ≠ 0))) ?_ ?_ ?_ ?_ ?_ ?_
  · intro A hA
    exact ⟨[], (.slice none 0 0), obj_below o_x2 hA, obj_below o_x3 hA, obj_below o_x4 hA, obj_below o_x5 hA, obj_below o_cb16 hA, Row.nil _ _ _ _ _, nr_nil _ _, hb.trans (hA.mono hs), by exact Nat.le_refl _, by rfl⟩
  · rintro K pre A B ⟨acc, v_x5_0, o_x2, o_x3, o_x4, o_x5, o_cb16, r_x5_0, nr_r_x5_0, hb, p2, p1⟩ hc
    exact ⟨acc, v_x5_0, obj_ch o_x2 hc (fun h => Nat.not_lt.2 h.1 lt_x2_0), obj_ch o_x3 hc (fun h => Nat.not_lt.2 h.1 lt_x3_0), obj_ch o_x4 hc (fun h => Nat.not_lt.2 h.1 lt_x4_0), obj_ch o_x5 hc (fun h => Nat.not_lt.2 h.1 lt_x5_0), obj_ch o_cb16 hc (fun h => Nat.not_lt.2 h.1 lt_cb16_0), r_x5_0.ch hc nr_r_x5_0, nr_r_x5_0, hc.below hb hb.size (fun k h => Nat.le_trans hs_0 h.1), p2, p1⟩
  · rintro K c pre A B (⟨a, e, hcc, o_x2, o_x3, o_x4, o_cb16, hb, q1, q2⟩) hc
    exact ⟨a, e, hcc, obj_ch o_x2 hc (fun h => Nat.not_lt.2 h.1 lt_x2_0), obj_ch o_x3 hc (fun h => Nat.not_lt.2 h.1 lt_x3_0), obj_ch o_x4 hc (fun h => Nat.not_lt.2 h.1 lt_x4_0), obj_ch o_cb16 hc (fun h => Nat.not_lt.2 h.1 lt_cb16_0), hc.below hb hb.size (fun k h => Nat.le_trans hs_0 h.1), q1, q2⟩
  · intro l K pre x A hi hN hK0 hK hpre
    obtain ⟨acc, v_x5_0, o_x2, o_x3, o_x4, o_x5, o_cb16, r_x5_0, nr_r_x5_0, hb, p2, p1⟩ := hi
    have hs := hb.size
    have hk := Kp.refl (w13.heap.size) K A
    have nv_x2 : ¬ Iv (w13.heap.size) K b1 := fun h => Nat.not_lt.2 h.1 lt_x2_0
    have nv_x3 : ¬ Iv (w13.heap.size) K b4 := fun h => Nat.not_lt.2 h.1 lt_x3_0
    have nv_x4 : ¬ Iv (w13.heap.size) K b7 := fun h => Nat.not_lt.2 h.1 lt_x4_0
    have nv_x5 : ¬ Iv (w13.heap.size) K b10 := fun h => Nat.not_lt.2 h.1 lt_x5_0
    have nv_cb16 : ¬ Iv (w13.heap.size) K cb16 := fun h => Nat.not_lt.2 h.1 lt_cb16_0
    replace o_cb16 := hN
    have hwl := words_len hpre
    refine W_seq (W_region (L_as (L_nil (thenQ_normal (W_region (L_as (L_nil ?_)))))))
    refine thenQ_normal ⟨hk, ?_⟩
    intro w17 hc18
    replace o_x2 := obj_ch o_x2 hc18 nv_x2
    replace o_x3 := obj_ch o_x3 hc18 nv_x3
    replace o_x4 := obj_ch o_x4 hc18 nv_x4
    replace o_x5 := obj_ch o_x5 hc18 nv_x5
    replace o_cb16 := obj_ch o_cb16 hc18 nv_cb16
    replace r_x5_0 := r_x5_0.ch hc18 nr_r_x5_0
    replace hb := hc18.below hb hs (fun k h => Nat.le_trans hs_0 h.1)
    replace hs := hb.size
    replace hK := Nat.le_trans hK hc18.size
    replace hk := Kp.refl (w13.heap.size) K w17
    refine W_block (W_seq (W_region (L_mv (L_call 21 [(S x.2)] (by kernel_rfl) (by kernel_rfl) (c_words_Class x.2 _ (by omega)) ?_))))
    rintro _ w19 ⟨rfl, hB20⟩
    replace hb := hb.trans (hB20.mono hs)
    replace hk := hk.ch (Ch.of_below hB20) hK (fun _ h => h.elim)
    replace hK := Nat.le_trans hK (hB20.size)
    replace hs := Nat.le_trans hs (hB20.size)
    replace o_x2 := obj_below o_x2 hB20
    replace o_x3 := obj_below o_x3 hB20
    replace o_x4 := obj_below o_x4 hB20
    replace o_x5 := obj_below o_x5 hB20
    replace o_cb16 := obj_below o_cb16 hB20
    replace r_x5_0 := r_x5_0.below hB20
    refine L_mv (L_run (.int .u8 ((classF x.2).1)) (by kernel_rfl) (by kernel_rfl) (L_run (.int .i64 ((classF x.2).2)) (by kernel_rfl) (by kernel_rfl) (L_as (L_as (L_nil (thenQ_normal (W_seq (W_seq (W_region (L_mv (L_cmp .i64 ((classF x.2).2) 0 ((classF x.2).2 ≠ 0) rfl (cmp_ne ((classF x.2).2) 0) (by kernel_rfl) (by kernel_rfl) ?_ ?_)))))))))))
    · intro h22
      replace h22 : (classF x.2).2 ≠ 0 := by omega
      refine L_nil (thenQ_normal (W_true (by kernel_rfl) (W_seq (W_region (L_mv (L_mv (L_store b1 0 (.slice none 0 0) [(.slice none 0 0)] [(.slice none 0 0)] 49 (by kernel_rfl) (by kernel_rfl) rfl (by kernel_rfl) o_x2 (by simp) rfl ?_)))))))
      intro w23 hW24
      replace hb := hb.trans (hW24.below g_x2)
      replace hk := hk.ch (Ch.of_wrote hW24) hK (fun k e h => nv_x2 (e ▸ h))
      replace hK := Nat.le_trans hK (Nat.le_of_eq hW24.size.symm)
      replace hs := Nat.le_trans hs (Nat.le_of_eq hW24.size.symm)
      have n_o_x3 := obj_wrote o_x3 hW24 (obj_ne o_x3 o_x2 (by simp))
      have n_o_x4 := obj_wrote o_x4 hW24 (obj_ne o_x4 o_x2 (by simp))
      have n_o_x5 := obj_wrote o_x5 hW24 ne_x5_x2
      have n_o_cb16 := obj_wrote o_cb16 hW24 (obj_ne o_cb16 o_x2 (by simp))
      have n_r_x5_0 := r_x5_0.wrote hW24 (r_x5_0.ne o_x2 (by simp))
      replace o_x3 := n_o_x3; clear n_o_x3
      replace o_x4 := n_o_x4; clear n_o_x4
      replace o_x5 := n_o_x5; clear n_o_x5
      replace o_cb16 := n_o_cb16; clear n_o_cb16
      replace r_x5_0 := n_r_x5_0; clear n_r_x5_0
      replace o_x2 := hW24.here
      refine L_store b4 0 (.int .i64 x.1) [(.int .i64 0)] [(.int .i64 x.1)] 3 (by kernel_rfl) (by kernel_rfl) rfl (by kernel_rfl) o_x3 (by simp) rfl ?_
      intro w25 hW26
      replace hb := hb.trans (hW26.below g_x3)
      replace hk := hk.ch (Ch.of_wrote hW26) hK (fun k e h => nv_x3 (e ▸ h))
      replace hK := Nat.le_trans hK (Nat.le_of_eq hW26.size.symm)
      replace hs := Nat.le_trans hs (Nat.le_of_eq hW26.size.symm)
      have n_o_x2 := obj_wrote o_x2 hW26 (obj_ne o_x2 o_x3 (by simp))
      have n_o_x4 := obj_wrote o_x4 hW26 (obj_ne o_x4 o_x3 (by simp))
      have n_o_x5 := obj_wrote o_x5 hW26 (obj_ne o_x5 o_x3 (by simp))
      have n_o_cb16 := obj_wrote o_cb16 hW26 (obj_ne o_cb16 o_x3 (by simp))
      have n_r_x5_0 := r_x5_0.wrote hW26 (r_x5_0.ne o_x3 (by simp))
      replace o_x2 := n_o_x2; clear n_o_x2
      replace o_x4 := n_o_x4; clear n_o_x4
      replace o_x5 := n_o_x5; clear n_o_x5
      replace o_cb16 := n_o_cb16; clear n_o_cb16
      replace r_x5_0 := n_r_x5_0; clear n_r_x5_0
      replace o_x3 := hW26.here
      refine L_store b7 0 (.int .i64 ((classF x.2).2)) [(.int .i64 0)] [(.int .i64 ((classF x.2).2))] 35 (by kernel_rfl) (by kernel_rfl) rfl (by kernel_rfl) o_x4 (by simp) rfl ?_
      intro w27 hW28
      replace hb := hb.trans (hW28.below g_x4)
      replace hk := hk.ch (Ch.of_wrote hW28) hK (fun k e h => nv_x4 (e ▸ h))
      replace hK := Nat.le_trans hK (Nat.le_of_eq hW28.size.symm)
      replace hs := Nat.le_trans hs (Nat.le_of_eq hW28.size.symm)
      have n_o_x2 := obj_wrote o_x2 hW28 (obj_ne o_x2 o_x4 (by simp))
      have n_o_x3 := obj_wrote o_x3 hW28 (obj_ne o_x3 o_x4 (by simp))
      have n_o_x5 := obj_wrote o_x5 hW28 (obj_ne o_x5 o_x4 (by simp))
      have n_o_cb16 := obj_wrote o_cb16 hW28 (obj_ne o_cb16 o_x4 (by simp))
      have n_r_x5_0 := r_x5_0.wrote hW28 (r_x5_0.ne o_x4 (by simp))
      replace o_x2 := n_o_x2; clear n_o_x2
      replace o_x3 := n_o_x3; clear n_o_x3
      replace o_x5 := n_o_x5; clear n_o_x5
      replace o_cb16 := n_o_cb16; clear n_o_cb16
      replace r_x5_0 := n_r_x5_0; clear n_r_x5_0
      replace o_x4 := hW28.here
      refine L_nil (thenQ_normal (W_ret (thenQ_ret (blkQ_ret ?_))))
      refine round_ret hk (⟨x.1, ((classF x.2).2), rfl, o_x2, o_x3, o_x4, o_cb16, hb, ?_, ?_⟩)
      · rw [List.foldl_append, p1]; simp [cstep, *]
      · assumption
    · intro h29
      replace h29 : (classF x.2).2 = 0 := by omega
      refine L_nil (thenQ_normal (W_false (by kernel_rfl) (W_skip (thenQ_normal (W_region (L_load b10 0 v_x5_0 (by kernel_rfl) (by kernel_rfl) (cell_obj o_x5 rfl) (L_mv (L_app el49 w.heap.size v_x5_0 acc ((classF x.2).1) hs r_x5_0 (by omega) (by kernel_rfl) rfl rfl (by kernel_rfl) rfl (by kernel_rfl) (by kernel_rfl) ?_))))))))
      intro v30 w31 hr32 hg33 how34
      have nr2 := nr_app how34 nr_r_x5_0 hK
      replace hb := hb.grown hg33 hs (fun k hk => (World.ownsRow.lt r_x5_0 k hk).1)
      replace hk := hk.ch (Ch.of_grown hg33) hK (fun k e => nr_r_x5_0 k e)
      replace hK := Nat.le_trans hK (hg33.size)
      replace hs := Nat.le_trans hs (hg33.size)
      have n_o_x2 := obj_grown o_x2 hg33 (r_x5_0.ne o_x2 (by simp))
      have n_o_x3 := obj_grown o_x3 hg33 (r_x5_0.ne o_x3 (by simp))
      have n_o_x4 := obj_grown o_x4 hg33 (r_x5_0.ne o_x4 (by simp))
      have n_o_x5 := obj_grown o_x5 hg33 (r_x5_0.ne o_x5 (by simp))
      have n_o_cb16 := obj_grown o_cb16 hg33 (r_x5_0.ne o_cb16 (by simp))
      replace o_x2 := n_o_x2; clear n_o_x2
      replace o_x3 := n_o_x3; clear n_o_x3
      replace o_x4 := n_o_x4; clear n_o_x4
      replace o_x5 := n_o_x5; clear n_o_x5
      replace o_cb16 := n_o_cb16; clear n_o_cb16
      replace r_x5_0 := hr32
      have nr_r_x5_0 := nr2; clear nr2
      refine L_store b10 0 v30 [v_x5_0] [v30] 49 (by kernel_rfl) (by kernel_rfl) r_x5_0.one (by kernel_rfl) o_x5 (by simp) rfl ?_
      intro w35 hW36
      replace hb := hb.trans (hW36.below g_x5)
      replace hk := hk.ch (Ch.of_wrote hW36) hK (fun k e h => nv_x5 (e ▸ h))
      replace hK := Nat.le_trans hK (Nat.le_of_eq hW36.size.symm)
      replace hs := Nat.le_trans hs (Nat.le_of_eq hW36.size.symm)
      have n_o_x2 := obj_wrote o_x2 hW36 ne_x2_x5
      have n_o_x3 := obj_wrote o_x3 hW36 (obj_ne o_x3 o_x5 (by simp))
      have n_o_x4 := obj_wrote o_x4 hW36 (obj_ne o_x4 o_x5 (by simp))
      have n_o_cb16 := obj_wrote o_cb16 hW36 (obj_ne o_cb16 o_x5 (by simp))
      have n_r_x5_0 := r_x5_0.wrote hW36 (r_x5_0.ne o_x5 (by simp))
      replace o_x2 := n_o_x2; clear n_o_x2
      replace o_x3 := n_o_x3; clear n_o_x3
      replace o_x4 := n_o_x4; clear n_o_x4
      replace o_cb16 := n_o_cb16; clear n_o_cb16
      replace r_x5_0 := n_r_x5_0; clear n_r_x5_0
      replace o_x5 := hW36.here
      refine L_nil (blkQ_normal ?_)
      refine round_normal hk o_cb16 ⟨(acc ++ [(classF x.2).1]), v30, o_x2, o_x3, o_x4, o_x5, o_cb16, r_x5_0, nr_r_x5_0, hb, ?_, ?_⟩
      · simp; omega
      · rw [List.foldl_append, p1]; simp [cstep, *]
  · intro K A hi hsz o_D0
    obtain ⟨acc, v_x5_0, o_x2, o_x3, o_x4, o_x5, o_cb16, r_x5_0, nr_r_x5_0, hb, p2, p1⟩ := hi
    have ne_x2_D0 : b1 ≠ w13.heap.size := Nat.ne_of_lt lt_x2_0
    have ne_D0_x2 := ne_x2_D0.symm
    have ne_x3_D0 : b4 ≠ w13.heap.size := Nat.ne_of_lt lt_x3_0
    have ne_D0_x3 := ne_x3_D0.symm
    have ne_x4_D0 : b7 ≠ w13.heap.size := Nat.ne_of_lt lt_x4_0
    have ne_D0_x4 := ne_x4_D0.symm
    have ne_x5_D0 : b10 ≠ w13.heap.size := Nat.ne_of_lt lt_x5_0
    have ne_D0_x5 := ne_x5_D0.symm
    have ne_cb16_D0 : cb16 ≠ w13.heap.size := Nat.ne_of_lt lt_cb16_0
    have ne_D0_cb16 := ne_cb16_D0.symm
    have hs : w.heap.size ≤ _ := hb.size
    refine blkQ_normal (thenQ_normal (W_seq (W_region (L_load b10 0 v_x5_0 (by kernel_rfl) (by kernel_rfl) (cell_obj o_x5 rfl) (L_store b1 0 v_x5_0 [(.slice none 0 0)] [v_x5_0] 49 (by kernel_rfl) (by kernel_rfl) r_x5_0.one (by kernel_rfl) o_x2 (by simp) rfl ?_)))))
    intro w37 hW38
    replace hb := hb.trans (hW38.below g_x2)
    replace hs := Nat.le_trans hs (Nat.le_of_eq hW38.size.symm)
    have n_o_x3 := obj_wrote o_x3 hW38 (obj_ne o_x3 o_x2 (by simp))
    have n_o_x4 := obj_wrote o_x4 hW38 (obj_ne o_x4 o_x2 (by simp))
    have n_o_x5 := obj_wrote o_x5 hW38 ne_x5_x2
    have n_o_cb16 := obj_wrote o_cb16 hW38 (obj_ne o_cb16 o_x2 (by simp))
    have n_o_D0 := obj_wrote o_D0 hW38 (obj_ne o_D0 o_x2 (by simp))
    have n_r_x5_0 := r_x5_0.wrote hW38 (r_x5_0.ne o_x2 (by simp))
    replace o_x3 := n_o_x3; clear n_o_x3
    replace o_x4 := n_o_x4; clear n_o_x4
    replace o_x5 := n_o_x5; clear n_o_x5
    replace o_cb16 := n_o_cb16; clear n_o_cb16
    replace o_D0 := n_o_D0; clear n_o_D0
    replace r_x5_0 := n_r_x5_0; clear n_r_x5_0
    replace o_x2 := hW38.here
    refine L_store b4 0 (.int .i64 0) [(.int .i64 0)] [(.int .i64 0)] 3 (by kernel_rfl) (by kernel_rfl) rfl (by kernel_rfl) o_x3 (by simp) rfl ?_
    intro w39 hW40
    replace hb := hb.trans (hW40.below g_x3)
    replace hs := Nat.le_trans hs (Nat.le_of_eq hW40.size.symm)
    have n_o_x2 := obj_wrote o_x2 hW40 (obj_ne o_x2 o_x3 (by simp))
    have n_o_x4 := obj_wrote o_x4 hW40 (obj_ne o_x4 o_x3 (by simp))
    have n_o_x5 := obj_wrote o_x5 hW40 (obj_ne o_x5 o_x3 (by simp))
    have n_o_cb16 := obj_wrote o_cb16 hW40 (obj_ne o_cb16 o_x3 (by simp))
    have n_o_D0 := obj_wrote o_D0 hW40 (obj_ne o_D0 o_x3 (by simp))
    have n_r_x5_0 := r_x5_0.wrote hW40 (r_x5_0.ne o_x3 (by simp))
    replace o_x2 := n_o_x2; clear n_o_x2
    replace o_x4 := n_o_x4; clear n_o_x4
    replace o_x5 := n_o_x5; clear n_o_x5
    replace o_cb16 := n_o_cb16; clear n_o_cb16
    replace o_D0 := n_o_D0; clear n_o_D0
    replace r_x5_0 := n_r_x5_0; clear n_r_x5_0
    replace o_x3 := hW40.here
    refine L_store b7 0 (.int .i64 0) [(.int .i64 0)] [(.int .i64 0)] 35 (by kernel_rfl) (by kernel_rfl) rfl (by kernel_rfl) o_x4 (by simp) rfl ?_
    intro w41 hW42
    replace hb := hb.trans (hW42.below g_x4)
    replace hs := Nat.le_trans hs (Nat.le_of_eq hW42.size.symm)
    have n_o_x2 := obj_wrote o_x2 hW42 (obj_ne o_x2 o_x4 (by simp))
    have n_o_x3 := obj_wrote o_x3 hW42 (obj_ne o_x3 o_x4 (by simp))
    have n_o_x5 := obj_wrote o_x5 hW42 (obj_ne o_x5 o_x4 (by simp))
    have n_o_cb16 := obj_wrote o_cb16 hW42 (obj_ne o_cb16 o_x4 (by simp))
    have n_o_D0 := obj_wrote o_D0 hW42 (obj_ne o_D0 o_x4 (by simp))
    have n_r_x5_0 := r_x5_0.wrote hW42 (r_x5_0.ne o_x4 (by simp))
    replace o_x2 := n_o_x2; clear n_o_x2
    replace o_x3 := n_o_x3; clear n_o_x3
    replace o_x5 := n_o_x5; clear n_o_x5
    replace o_cb16 := n_o_cb16; clear n_o_cb16
    replace o_D0 := n_o_D0; clear n_o_D0
    replace r_x5_0 := n_r_x5_0; clear n_r_x5_0
    replace o_x4 := hW42.here
    refine L_nil (thenQ_normal (W_ret (end_retM (ds := [⟨.collected w13.heap.size, #[]⟩]) (by kernel_rfl) (Lv_mark o_D0 ?_))))
    intro w43 hW44
    replace hb := hb.trans (hW44.below hs_0)
    replace hs := Nat.le_trans hs (Nat.le_of_eq hW44.size.symm)
    have n_o_x2 := obj_wrote o_x2 hW44 (obj_ne o_x2 o_D0 (by simp))
    have n_o_x3 := obj_wrote o_x3 hW44 (obj_ne o_x3 o_D0 (by simp))
    have n_o_x4 := obj_wrote o_x4 hW44 (obj_ne o_x4 o_D0 (by simp))
    have n_o_x5 := obj_wrote o_x5 hW44 (obj_ne o_x5 o_D0 (by simp))
    have n_o_cb16 := obj_wrote o_cb16 hW44 (obj_ne o_cb16 o_D0 (by simp))
    have n_r_x5_0 := r_x5_0.wrote hW44 (r_x5_0.ne o_D0 (by simp))
    replace o_x2 := n_o_x2; clear n_o_x2
    replace o_x3 := n_o_x3; clear n_o_x3
    replace o_x4 := n_o_x4; clear n_o_x4
    replace o_x5 := n_o_x5; clear n_o_x5
    replace o_cb16 := n_o_cb16; clear n_o_cb16
    replace r_x5_0 := n_r_x5_0; clear n_r_x5_0
    replace o_D0 := hW44.here
    refine Lv_nil [.cell 2 49, .cell 3 3, .cell 4 35] [v_x5_0, (.int .i64 0), (.int .i64 0)] rfl ⟨⟨⟨b1, 0, none⟩, by kernel_rfl, load_one (by kernel_rfl) (cell_obj o_x2 rfl)⟩, ⟨⟨b4, 0, none⟩, by kernel_rfl, load_one (by kernel_rfl) (cell_obj o_x3 rfl)⟩, ⟨⟨b7, 0, none⟩, by kernel_rfl, load_one (by kernel_rfl) (cell_obj o_x4 rfl)⟩, trivial⟩ ?_
    have hE : ((0 : Int) = (classesF s).2.1) ∧ ((0 : Int) = (classesF s).2.2) ∧ (acc = (classesF s).1) := ⟨(by first | (simp [classesF, p1]; done) | (obtain ⟨rest, hr⟩ := hpre; simp [classesF, ← hr, List.foldl_append, q1, cstep_err (st := ([], a, e)) q2]; done)), (by first | (simp [classesF, p1]; done) | (obtain ⟨rest, hr⟩ := hpre; simp [classesF, ← hr, List.foldl_append, q1, cstep_err (st := ([], a, e)) q2]; done)), (by first | (simp [classesF, p1]; done) | (obtain ⟨rest, hr⟩ := hpre; simp [classesF, ← hr, List.foldl_append, q1, cstep_err (st := ([], a, e)) q2]; done))⟩
    exact ⟨v_x5_0, tup3 (rfl) (congrArg (Value.int .i64) hE.1) (congrArg (Value.int .i64) hE.2.1), r_x5_0.cast hE.2.2, hb⟩
  · intro K c pre0 x0 A hpre hx hsz o_D0
    obtain ⟨pre, hpreq⟩ : ∃ pre, pre = pre0 ++ [x0] := ⟨_, rfl⟩
    rw [← hpreq] at hpre; try rw [← hpreq] at hx
    rcases hx with ⟨a, e, rfl, o_x2, o_x3, o_x4, o_cb16, hb, q1, q2⟩
    have ne_x2_D0 : b1 ≠ w13.heap.size := Nat.ne_of_lt lt_x2_0
    have ne_D0_x2 := ne_x2_D0.symm
    have ne_x3_D0 : b4 ≠ w13.heap.size := Nat.ne_of_lt lt_x3_0
    have ne_D0_x3 := ne_x3_D0.symm
    have ne_x4_D0 : b7 ≠ w13.heap.size := Nat.ne_of_lt lt_x4_0
    have ne_D0_x4 := ne_x4_D0.symm
    have ne_cb16_D0 : cb16 ≠ w13.heap.size := Nat.ne_of_lt lt_cb16_0
    have ne_D0_cb16 := ne_cb16_D0.symm
    have hs : w.heap.size ≤ _ := hb.size
    refine W_ret (blkQ_ret (thenQ_ret (end_retM (ds := [⟨.collected w13.heap.size, #[]⟩]) (by kernel_rfl) (Lv_mark o_D0 ?_))))
    intro w45 hW46
    replace hb := hb.trans (hW46.below hs_0)
    replace hs := Nat.le_trans hs (Nat.le_of_eq hW46.size.symm)
    have n_o_x2 := obj_wrote o_x2 hW46 (obj_ne o_x2 o_D0 (by simp))
    have n_o_x3 := obj_wrote o_x3 hW46 (obj_ne o_x3 o_D0 (by simp))
    have n_o_x4 := obj_wrote o_x4 hW46 (obj_ne o_x4 o_D0 (by simp))
    have n_o_cb16 := obj_wrote o_cb16 hW46 (obj_ne o_cb16 o_D0 (by simp))
    replace o_x2 := n_o_x2; clear n_o_x2
    replace o_x3 := n_o_x3; clear n_o_x3
    replace o_x4 := n_o_x4; clear n_o_x4
    replace o_cb16 := n_o_cb16; clear n_o_cb16
    replace o_D0 := hW46.here
    refine Lv_nil [.cell 2 49, .cell 3 3, .cell 4 35] [(.slice none 0 0), (.int .i64 a), (.int .i64 e)] rfl ⟨⟨⟨b1, 0, none⟩, by kernel_rfl, load_one (by kernel_rfl) (cell_obj o_x2 rfl)⟩, ⟨⟨b4, 0, none⟩, by kernel_rfl, load_one (by kernel_rfl) (cell_obj o_x3 rfl)⟩, ⟨⟨b7, 0, none⟩, by kernel_rfl, load_one (by kernel_rfl) (cell_obj o_x4 rfl)⟩, trivial⟩ ?_
    have hE : ((a : Int) = (classesF s).2.1) ∧ ((e : Int) = (classesF s).2.2) ∧ (([] : List (Int)) = (classesF s).1) := ⟨(by first | (simp [classesF, p1]; done) | (obtain ⟨rest, hr⟩ := hpre; simp [classesF, ← hr, List.foldl_append, q1, cstep_err (st := ([], a, e)) q2]; done)), (by first | (simp [classesF, p1]; done) | (obtain ⟨rest, hr⟩ := hpre; simp [classesF, ← hr, List.foldl_append, q1, cstep_err (st := ([], a, e)) q2]; done)), (by first | (simp [classesF, p1]; done) | (obtain ⟨rest, hr⟩ := hpre; simp [classesF, ← hr, List.foldl_append, q1, cstep_err (st := ([], a, e)) q2]; done))⟩
    exact ⟨(.slice none 0 0), tup3 (rfl) (congrArg (Value.int .i64) hE.1) (congrArg (Value.int .i64) hE.2.1), (Row.nil _ _ _ _ _).cast hE.2.2, hb⟩

set_option maxHeartbeats 4000000 in
set_option maxRecDepth 100000 in
theorem c_words_Side (s : List UInt8) (w : World) (hs : s.length ≤ 1073741824) :
    Calls Try.prog 23 #[(S s)] w (Ret fun v w' => v = (.tuple #[(.int .u8 ((sideF s).1)), (.int .i64 ((sideF s).2))]) ∧ Below w.heap.size w w') := by
  refine enter (args := [(S s)]) Try.func23 rfl (by kernel_rfl : _ = 33) (by kernel_rfl) ?_
  have hb := Below.refl w.heap.size w
  have hs : w.heap.size ≤ w.heap.size := Nat.le_refl _
  refine W_seq (W_region (L_as (L_as (L_nil (thenQ_normal (W_seq (W_seq (W_region (L_new (fun b => .slice (some ⟨b, 0, none⟩) 3 3) (.cells [(S ([78, 111, 110, 101] : List UInt8)), (S ([79, 112, 101, 110] : List UInt8)), (S ([67, 108, 111, 115, 101] : List UInt8))].toArray 9 (0, 0)) (by kernel_rfl) (by kernel_rfl) ?_)))))))))
  intro b1 w2 hN3
  have g_b1 : w.heap.size ≤ b1 := by rw [hN3.num]; exact hs
  replace hb := hb.trans (hN3.below.mono hs)
  replace hs := Nat.le_trans hs (hN3.below.size)
  have r_b1 : Row w2 w.heap.size 9 1 encStr (.slice (some ⟨b1, 0, none⟩) 3 3) sideTab := Row.made sideTab hN3 g_b1 rfl rfl (by first | decide | (simp; done))
  refine L_len 43 9 (sideTab).length (.slice (some ⟨b1, 0, none⟩) 3 3) rfl Try.underlying43 (r_b1.rd).len (by kernel_rfl) (L_mv (L_nil (thenQ_normal (W_block ?_))))
  refine W_loop (fun m s0 w0 => ∃ (k : Nat), (m = 3 - k) ∧ (s0.ds = []) ∧ (s0.f 0 = (S s)) ∧ (s0.f 9 = (.slice (some ⟨b1, 0, none⟩) 3 3)) ∧ (s0.f 10 = (.int .i64 (((sideTab).length : Nat) : Int))) ∧ (s0.f 11 = (.int .i64 ((k : Nat) : Int))) ∧ (Row w0 w.heap.size 9 1 encStr (.slice (some ⟨b1, 0, none⟩) 3 3) sideTab) ∧ (Below w.heap.size w w0) ∧ (w.heap.size ≤ w0.heap.size) ∧ (k ≤ 3) ∧ (sideFrom s k = sideF s)) _ ⟨0, rfl, by kernel_rfl, by kernel_rfl, by kernel_rfl, by kernel_rfl, by kernel_rfl, r_b1, hb, hs, by omega, rfl⟩ ?_
  rintro m4 s5 w6 ⟨k, hm, hds, f_0, f_9, f_10, f_11, r_b1, hb, hs, i1, i3⟩
  refine W_set 0 _ f_0 (W_set 9 _ f_9 (W_set 10 _ f_10 (W_set 11 _ f_11 ?_)))
  clear f_0 f_9 f_10 f_11
  have htl : sideTab.length = 3 := rfl
  refine W_seq (W_region (L_cmp .i64 ((k : Nat) : Int) (((sideTab).length : Nat) : Int) (k < (sideTab).length) rfl (cmpN_lt k ((sideTab).length)) (by kernel_rfl) (by kernel_rfl) ?_ ?_))
  · intro h7
    replace h7 : k < (sideTab).length := by omega
    refine L_nil (thenQ_normal (W_seq (W_true (by kernel_rfl) (W_skip (thenQ_normal (W_seq (W_block (W_seq (W_region (L_mv ?_))))))))))
    obtain ⟨x8, hx9⟩ := get_some sideTab k (by omega)
    have hz := (r_b1.rd).at (k := 1) (fun _ => rfl) hx9
    obtain ⟨g10, off11, hl12, hc13⟩ := hz
    have := sideTab_len hx9
    have hside := hx9
    refine L_ixaddr (k := .i64) (.slice (some ⟨b1, 0, none⟩) 3 3) k _ g10 off11 el43 hl12 (by omega) (by kernel_rfl) (by kernel_rfl) (L_load g10 (off11 + k * 1) (S x8) (by kernel_rfl) (by kernel_rfl) (hc13 0 _ rfl) (L_as (L_as (L_nil (thenQ_normal (W_seq (W_region (L_mv (L_conv (k := .i64) ((k : Nat) : Int) ((k : Nat) : Int) (by kernel_rfl) Try.underlying39 (by kernel_rfl) (wrap_u8 _ (by omega) (by omega)) (L_as (L_nil (thenQ_normal (W_seq (W_region (L_mv (L_call 29 [(.int .u8 ((k : Nat) : Int))] (by kernel_rfl) (by kernel_rfl) (c_words_Letter ((k : Nat) : Int) _ ) ?_))))))))))))))))
    rintro _ w14 ⟨rfl, hB15⟩
    replace hb := hb.trans (hB15.mono hs)
    replace hs := Nat.le_trans hs (hB15.size)
    replace r_b1 := r_b1.below hB15
    have := letterS_len ((k : Nat) : Int)
    refine L_mv (L_run (S (letterS ((k : Nat) : Int))) (by kernel_rfl) (by kernel_rfl) (L_run (.int .i64 (letterE ((k : Nat) : Int))) (by kernel_rfl) (by kernel_rfl) (L_as (L_as (L_nil (thenQ_normal (W_seq (W_region (L_mv (L_mv (L_call 20 [(S s), (S (letterS ((k : Nat) : Int)))] (by kernel_rfl) (by kernel_rfl) (c_words_Alike s (letterS ((k : Nat) : Int)) _ (by omega) (by omega)) ?_)))))))))))
    rintro _ w17 ⟨rfl, hB18⟩
    replace hb := hb.trans (hB18.mono hs)
    replace hs := Nat.le_trans hs (hB18.size)
    replace r_b1 := r_b1.below hB18
    refine put_split (alikeB s (letterS ((k : Nat) : Int))) ?_ ?_
    · intro h20
      refine L_mv (L_skip (by kernel_rfl) (L_skip (by kernel_rfl) (L_skip (by kernel_rfl) (L_pickT (by kernel_rfl) (L_nil (thenQ_normal (W_true (by kernel_rfl) (W_seq (W_region (L_mv (L_as (L_as (L_nil (thenQ_normal (W_ret (blkQ_ret (thenQ_ret (thenQ_ret (blkQ_ret (thenQ_ret ?_))))))))))))))))))))
      refine end_ret [.tmp 2, .tmp 3] [(.int .u8 ((k : Nat) : Int)), (.int .i64 0)] rfl hds ⟨by kernel_rfl, by kernel_rfl, trivial⟩ ?_
      have hE : ((((k : Nat) : Int) : Int) = (sideF s).1) ∧ ((0 : Int) = (sideF s).2) := ⟨(by first | (rw [← i3, sideFrom_end (k := k) (by omega)]; done) | (rw [← i3, sideFrom_step hside]; simp [*]; done)), (by first | (rw [← i3, sideFrom_end (k := k) (by omega)]; done) | (rw [← i3, sideFrom_step hside]; simp [*]; done))⟩
      exact ⟨tup2 (congrArg (Value.int .u8) hE.1) (congrArg (Value.int .i64) hE.2), hb⟩
    · intro h21
      refine L_mv (L_want (by kernel_rfl) (L_mv (L_want (by kernel_rfl) (L_mv (L_want (by kernel_rfl) (L_call 20 [(S s), (S x8)] (by kernel_rfl) (by kernel_rfl) (c_words_Alike s x8 _ (by omega) (by omega)) ?_))))))
      rintro _ w22 ⟨rfl, hB23⟩
      replace hb := hb.trans (hB23.mono hs)
      replace hs := Nat.le_trans hs (hB23.size)
      replace r_b1 := r_b1.below hB23
      refine put_split (alikeB s x8) ?_ ?_
      · intro h25
        refine L_pickF (by kernel_rfl) (L_nil (thenQ_normal (W_true (by kernel_rfl) (W_seq (W_region (L_mv (L_as (L_as (L_nil (thenQ_normal (W_ret (blkQ_ret (thenQ_ret (thenQ_ret (blkQ_ret (thenQ_ret ?_))))))))))))))))
        refine end_ret [.tmp 2, .tmp 3] [(.int .u8 ((k : Nat) : Int)), (.int .i64 0)] rfl hds ⟨by kernel_rfl, by kernel_rfl, trivial⟩ ?_
        have hE : ((((k : Nat) : Int) : Int) = (sideF s).1) ∧ ((0 : Int) = (sideF s).2) := ⟨(by first | (rw [← i3, sideFrom_end (k := k) (by omega)]; done) | (rw [← i3, sideFrom_step hside]; simp [*]; done)), (by first | (rw [← i3, sideFrom_end (k := k) (by omega)]; done) | (rw [← i3, sideFrom_step hside]; simp [*]; done))⟩
        exact ⟨tup2 (congrArg (Value.int .u8) hE.1) (congrArg (Value.int .i64) hE.2), hb⟩
      · intro h26
        refine L_pickF (by kernel_rfl) (L_nil (thenQ_normal (W_false (by kernel_rfl) (W_skip (blkQ_normal (thenQ_normal (W_region (L_addN k 1 (by omega) (by kernel_rfl) (by kernel_rfl) (L_mv (L_nil ?_))))))))))
        refine thenQ_normal ⟨_, ?_, (k + 1), rfl, hds, by kernel_rfl, by kernel_rfl, by kernel_rfl, by kernel_rfl, r_b1, hb, hs, ?_, ?_⟩
        · omega
        · omega
        · rw [← i3, sideFrom_step hside]; simp [*]
  · intro h27
    replace h27 : (sideTab).length ≤ k := by omega
    refine L_nil (thenQ_normal (W_seq (W_false (by kernel_rfl) (W_exit (thenQ_exit (thenQ_exit (blkQ_exit (thenQ_normal (W_seq (W_region (L_as (L_as (L_nil (thenQ_normal (W_ret ?_)))))))))))))))
    refine end_ret [.tmp 2, .tmp 3] [(.int .u8 0), (.int .i64 51)] rfl hds ⟨by kernel_rfl, by kernel_rfl, trivial⟩ ?_
    have hE : ((0 : Int) = (sideF s).1) ∧ ((51 : Int) = (sideF s).2) := ⟨(by first | (rw [← i3, sideFrom_end (k := k) (by omega)]; done) | (rw [← i3, sideFrom_step hside]; simp [*]; done)), (by first | (rw [← i3, sideFrom_end (k := k) (by omega)]; done) | (rw [← i3, sideFrom_step hside]; simp [*]; done))⟩
    exact ⟨tup2 (congrArg (Value.int .u8) hE.1) (congrArg (Value.int .i64) hE.2), hb⟩

set_option maxHeartbeats 4000000 in
set_option maxRecDepth 100000 in
theorem c_furrowlaw05_awake (w : World) :
    Calls Try.prog 15 #[] w (Ret fun v w' => v = (.bool true) ∧ Below w.heap.size w w') := by
  refine enter (args := []) Try.func15 rfl (by kernel_rfl : _ = 75) (by kernel_rfl) ?_
  have hb := Below.refl w.heap.size w
  have hs : w.heap.size ≤ w.heap.size := Nat.le_refl _
  refine W_seq (W_region (L_as (L_nil (thenQ_normal (W_seq (W_region (L_call 21 [(S ([114, 105, 103, 104, 116, 32, 116, 111, 45, 76, 69, 70, 84] : List UInt8))] (by kernel_rfl) (by kernel_rfl) (calls_as (c_words_Class ([114, 105, 103, 104, 116, 32, 116, 111, 45, 76, 69, 70, 84] : List UInt8) _ (by first | omega | (simp; done))) (by kernel_rfl : _ = fun v w' => v = (.tuple #[(.int .u8 2), (.int .i64 0)]) ∧ Below w.heap.size w w')) ?_)))))))
  rintro _ w1 ⟨rfl, hB2⟩
  replace hb := hb.trans (hB2.mono hs)
  replace hs := Nat.le_trans hs (hB2.size)
  refine L_mv (L_run (.int .u8 2) (by kernel_rfl) (by kernel_rfl) (L_run (.int .i64 0) (by kernel_rfl) (by kernel_rfl) (L_as (L_as (L_nil (thenQ_normal (W_seq (W_region (L_call 21 [(S ([114, 105, 103, 104, 116] : List UInt8))] (by kernel_rfl) (by kernel_rfl) (calls_as (c_words_Class ([114, 105, 103, 104, 116] : List UInt8) _ (by first | omega | (simp; done))) (by kernel_rfl : _ = fun v w' => v = (.tuple #[(.int .u8 0), (.int .i64 50)]) ∧ Below w1.heap.size w1 w')) ?_)))))))))
  rintro _ w4 ⟨rfl, hB5⟩
  replace hb := hb.trans (hB5.mono hs)
  replace hs := Nat.le_trans hs (hB5.size)
  refine L_mv (L_run (.int .u8 0) (by kernel_rfl) (by kernel_rfl) (L_run (.int .i64 50) (by kernel_rfl) (by kernel_rfl) (L_as (L_as (L_nil (thenQ_normal (W_seq (W_region (L_call 33 [(S ([65, 76, 227, 128, 128, 119, 104, 105, 116, 101, 95, 115, 112, 97, 99, 101] : List UInt8))] (by kernel_rfl) (by kernel_rfl) (calls_as (c_words_Classes ([65, 76, 227, 128, 128, 119, 104, 105, 116, 101, 95, 115, 112, 97, 99, 101] : List UInt8) _ (by first | omega | (simp; done))) (by kernel_rfl : _ = fun v w' => ∃ (q0 : Value), v = (.tuple #[q0, (.int .i64 0), (.int .i64 0)]) ∧ Row w' w4.heap.size 34 1 encU8 q0 ([3, 13] : List Int) ∧ Below w4.heap.size w4 w')) ?_)))))))))
  rintro _ w8 ⟨q7, rfl, r_q7, hB9⟩
  replace r_q7 := r_q7.base hs
  replace hb := hb.trans (hB9.mono hs)
  replace hs := Nat.le_trans hs (hB9.size)
  refine L_mv (L_run q7 (by kernel_rfl) (by kernel_rfl) (L_run (.int .i64 0) (by kernel_rfl) (by kernel_rfl) (L_run (.int .i64 0) (by kernel_rfl) (by kernel_rfl) (L_as (L_as (L_as (L_nil (thenQ_normal (W_seq (W_region (L_call 23 [(S ([32, 67, 108, 111, 115, 101] : List UInt8))] (by kernel_rfl) (by kernel_rfl) (calls_as (c_words_Side ([32, 67, 108, 111, 115, 101] : List UInt8) _ (by first | omega | (simp; done))) (by kernel_rfl : _ = fun v w' => v = (.tuple #[(.int .u8 2), (.int .i64 0)]) ∧ Below w8.heap.size w8 w')) ?_)))))))))))
  rintro _ w11 ⟨rfl, hB12⟩
  replace hb := hb.trans (hB12.mono hs)
  replace hs := Nat.le_trans hs (hB12.size)
  replace r_q7 := r_q7.below hB12
  refine L_mv (L_run (.int .u8 2) (by kernel_rfl) (by kernel_rfl) (L_run (.int .i64 0) (by kernel_rfl) (by kernel_rfl) (L_as (L_as (L_nil (thenQ_normal (W_seq (W_region (L_mv (L_run (.bool true) (by kernel_rfl) (by kernel_rfl) (L_mv (L_want (by kernel_rfl) (L_mv (L_want (by kernel_rfl) (L_run (.bool true) (by kernel_rfl) (by kernel_rfl) (L_pickT (by kernel_rfl) (L_mv (L_want (by kernel_rfl) (L_mv (L_want (by kernel_rfl) (L_run (.bool true) (by kernel_rfl) (by kernel_rfl) (L_pickT (by kernel_rfl) (L_mv (L_want (by kernel_rfl) (L_mv (L_want (by kernel_rfl) (L_len 49 34 (([3, 13] : List Int)).length q7 rfl Try.underlying49 (r_q7.rd).len (by kernel_rfl) (L_want (by kernel_rfl) (L_run (.bool true) (by kernel_rfl) (by kernel_rfl) (L_pickT (by kernel_rfl) (L_mv (L_want (by kernel_rfl) (L_mv (L_want (by kernel_rfl) ?_))))))))))))))))))))))))))))))))))
  have hx15 : ([3, 13] : List Int)[1]? = some (13) := rfl
  have hz := (r_q7.rd).at (k := 1) (fun _ => rfl) hx15
  obtain ⟨g16, off17, hl18, hc19⟩ := hz
  refine L_ixaddr (k := .i64) q7 1 _ g16 off17 el49 hl18 (by first | omega | (simp; done)) (by kernel_rfl) (by kernel_rfl) (L_want (by kernel_rfl) (L_load g16 (off17 + 1 * 1) (.int .u8 13) (by kernel_rfl) (by kernel_rfl) (hc19 0 _ rfl) (L_want (by kernel_rfl) (L_run (.bool true) (by kernel_rfl) (by kernel_rfl) (L_pickT (by kernel_rfl) (L_mv (L_want (by kernel_rfl) (L_mv (L_want (by kernel_rfl) (L_run (.bool true) (by kernel_rfl) (by kernel_rfl) (L_pickT (by kernel_rfl) (L_mv (L_want (by kernel_rfl) (L_mv (L_want (by kernel_rfl) (L_run (.bool true) (by kernel_rfl) (by kernel_rfl) (L_pickT (by kernel_rfl) (L_mv (L_want (by kernel_rfl) (L_mv (L_want (by kernel_rfl) (L_run (.bool true) (by kernel_rfl) (by kernel_rfl) (L_pickT (by kernel_rfl) (L_mv (L_want (by kernel_rfl) (L_mv (L_want (by kernel_rfl) (L_run (.bool true) (by kernel_rfl) (by kernel_rfl) (L_pickT (by kernel_rfl) (L_mv (L_want (by kernel_rfl) (L_call 18 [(S ([255, 65, 95] : List UInt8))] (by kernel_rfl) (by kernel_rfl) (calls_as (c_words_Loose ([255, 65, 95] : List UInt8) _ (by first | omega | (simp; done))) (by kernel_rfl : _ = fun v w' => v = (S ([239, 191, 189, 97] : List UInt8)) ∧ Below w11.heap.size w11 w')) ?_))))))))))))))))))))))))))))))))
  rintro _ w20 ⟨rfl, hB21⟩
  replace hb := hb.trans (hB21.mono hs)
  replace hs := Nat.le_trans hs (hB21.size)
  replace r_q7 := r_q7.below hB21
  refine L_want (by kernel_rfl) (L_seqT ([239, 191, 189, 97] : List UInt8) ([239, 191, 189, 97] : List UInt8) (by rfl) (by kernel_rfl) (by kernel_rfl) (L_pickT (by kernel_rfl) (L_mv (L_want (by kernel_rfl) (L_call 13 [(.int .i32 12288)] (by kernel_rfl) (by kernel_rfl) (calls_as (c_words_Blank 12288 _ ) (by kernel_rfl : _ = fun v w' => v = (.bool true) ∧ Below w20.heap.size w20 w')) ?_)))))
  rintro _ w23 ⟨rfl, hB24⟩
  replace hb := hb.trans (hB24.mono hs)
  replace hs := Nat.le_trans hs (hB24.size)
  replace r_q7 := r_q7.below hB24
  refine L_pickT (by kernel_rfl) (L_mv (L_want (by kernel_rfl) (L_call 13 [(.int .i32 97)] (by kernel_rfl) (by kernel_rfl) (calls_as (c_words_Blank 97 _ ) (by kernel_rfl : _ = fun v w' => v = (.bool false) ∧ Below w23.heap.size w23 w')) ?_)))
  rintro _ w26 ⟨rfl, hB27⟩
  replace hb := hb.trans (hB27.mono hs)
  replace hs := Nat.le_trans hs (hB27.size)
  replace r_q7 := r_q7.below hB27
  refine L_want (by kernel_rfl) (L_not false (by kernel_rfl) (L_pickT (by kernel_rfl) (L_as (L_nil (thenQ_normal (W_ret ?_))))))
  refine end_ret [.tmp 0] [(.bool true)] rfl rfl ⟨by kernel_rfl, trivial⟩ ?_
  have e0 : true = true := by rfl
  exact ⟨congrArg Value.bool e0, hb⟩

set_option maxHeartbeats 4000000 in
set_option maxRecDepth 100000 in
theorem c_furrowlaw05_WordsBlanks (r : Int) (w : World) :
    Calls Try.prog 3 #[(.int .i32 r)] w (Ret fun v w' => v = (.bool true) ∧ Below w.heap.size w w') := by
  refine enter (args := [(.int .i32 r)]) Try.func3 rfl (by kernel_rfl : _ = 11) (by kernel_rfl) ?_
  have hb := Below.refl w.heap.size w
  have hs : w.heap.size ≤ w.heap.size := Nat.le_refl _
  refine W_seq (W_region (L_as (L_nil (thenQ_normal (W_seq (W_region (L_mv (L_call 13 [(.int .i32 r)] (by kernel_rfl) (by kernel_rfl) (c_words_Blank r _ ) ?_))))))))
  rintro _ w1 ⟨rfl, hB2⟩
  replace hb := hb.trans (hB2.mono hs)
  replace hs := Nat.le_trans hs (hB2.size)
  refine put_split (blankB r) ?_ ?_
  · intro h4
    refine L_mv (L_call 14 [(.int .i32 r)] (by kernel_rfl) (by kernel_rfl) (c_furrowref05_Blank r _ ) ?_)
    rintro _ w5 ⟨rfl, hB6⟩
    replace hb := hb.trans (hB6.mono hs)
    replace hs := Nat.le_trans hs (hB6.size)
    refine put_split (blankB r) ?_ ?_
    · intro h8
      refine L_run (.bool true) (by kernel_rfl) (by kernel_rfl) (L_mv (L_want (by kernel_rfl) (L_call 15 [] (by kernel_rfl) (by kernel_rfl) (c_furrowlaw05_awake  _ ) ?_)))
      rintro _ w9 ⟨rfl, hB10⟩
      replace hb := hb.trans (hB10.mono hs)
      replace hs := Nat.le_trans hs (hB10.size)
      refine L_pickT (by kernel_rfl) (L_as (L_nil (thenQ_normal (W_ret ?_))))
      refine end_ret [.tmp 2] [(.bool true)] rfl rfl ⟨by kernel_rfl, trivial⟩ ?_
      have e0 : true = true := by first | rfl | simp_all
      exact ⟨congrArg Value.bool e0, hb⟩
    · intro h12
      rw [h4] at h12; cases h12
  · intro h13
    refine L_mv (L_call 14 [(.int .i32 r)] (by kernel_rfl) (by kernel_rfl) (c_furrowref05_Blank r _ ) ?_)
    rintro _ w14 ⟨rfl, hB15⟩
    replace hb := hb.trans (hB15.mono hs)
    replace hs := Nat.le_trans hs (hB15.size)
    refine put_split (blankB r) ?_ ?_
    · intro h17
      rw [h13] at h17; cases h17
    · intro h18
      refine L_run (.bool true) (by kernel_rfl) (by kernel_rfl) (L_mv (L_want (by kernel_rfl) (L_call 15 [] (by kernel_rfl) (by kernel_rfl) (c_furrowlaw05_awake  _ ) ?_)))
      rintro _ w19 ⟨rfl, hB20⟩
      replace hb := hb.trans (hB20.mono hs)
      replace hs := Nat.le_trans hs (hB20.size)
      refine L_pickT (by kernel_rfl) (L_as (L_nil (thenQ_normal (W_ret ?_))))
      refine end_ret [.tmp 2] [(.bool true)] rfl rfl ⟨by kernel_rfl, trivial⟩ ?_
      have e0 : true = true := by first | rfl | simp_all
      exact ⟨congrArg Value.bool e0, hb⟩

set_option maxHeartbeats 4000000 in
set_option maxRecDepth 100000 in
theorem c_furrowref01_long (b : Int) (w : World) :
    Calls Try.prog 52 #[(.int .u8 b)] w (Ret fun v w' => v = (.int .i64 ((longN b : Nat) : Int)) ∧ Below w.heap.size w w') := by
  refine enter (args := [(.int .u8 b)]) Try.func52 rfl (by kernel_rfl : _ = 15) (by kernel_rfl) ?_
  have hb := Below.refl w.heap.size w
  have hs : w.heap.size ≤ w.heap.size := Nat.le_refl _
  refine W_seq (W_region (L_as (L_nil (thenQ_normal (W_seq (W_seq (W_region (L_mv (L_cmp .u8 b 128 (b < 128) rfl (cmp_lt b 128) (by kernel_rfl) (by kernel_rfl) ?_ ?_)))))))))
  · intro h1
    replace h1 : b < 128 := by omega
    refine L_nil (thenQ_normal (W_true (by kernel_rfl) (W_seq (W_region (L_as (L_nil (thenQ_normal (W_ret (thenQ_ret ?_)))))))))
    refine end_ret [.tmp 2] [(.int .i64 1)] rfl rfl ⟨by kernel_rfl, trivial⟩ ?_
    have e0 : 1 = longN b := by unfold longN; (repeat' split) <;> omega
    exact ⟨congrArg (fun x : Nat => Value.int .i64 (x : Int)) e0, hb⟩
  · intro h2
    replace h2 : 128 ≤ b := by omega
    refine L_nil (thenQ_normal (W_false (by kernel_rfl) (W_skip (thenQ_normal (W_seq (W_seq (W_region (L_mv (L_cmp .u8 b 192 (b < 192) rfl (cmp_lt b 192) (by kernel_rfl) (by kernel_rfl) ?_ ?_)))))))))
    · intro h3
      replace h3 : b < 192 := by omega
      refine L_mv (L_skip (by kernel_rfl) (L_skip (by kernel_rfl) (L_pickT (by kernel_rfl) (L_nil (thenQ_normal (W_true (by kernel_rfl) (W_seq (W_region (L_as (L_nil (thenQ_normal (W_ret (thenQ_ret ?_)))))))))))))
      refine end_ret [.tmp 2] [(.int .i64 0)] rfl rfl ⟨by kernel_rfl, trivial⟩ ?_
      have e0 : 0 = longN b := by unfold longN; (repeat' split) <;> omega
      exact ⟨congrArg (fun x : Nat => Value.int .i64 (x : Int)) e0, hb⟩
    · intro h4
      replace h4 : 192 ≤ b := by omega
      refine L_mv (L_want (by kernel_rfl) (L_mv (L_want (by kernel_rfl) (L_cmp .u8 b 247 (247 < b) rfl (cmp_gt b 247) (by kernel_rfl) (by kernel_rfl) ?_ ?_))))
      · intro h5
        replace h5 : 247 < b := by omega
        refine L_pickF (by kernel_rfl) (L_nil (thenQ_normal (W_true (by kernel_rfl) (W_seq (W_region (L_as (L_nil (thenQ_normal (W_ret (thenQ_ret ?_))))))))))
        refine end_ret [.tmp 2] [(.int .i64 0)] rfl rfl ⟨by kernel_rfl, trivial⟩ ?_
        have e0 : 0 = longN b := by unfold longN; (repeat' split) <;> omega
        exact ⟨congrArg (fun x : Nat => Value.int .i64 (x : Int)) e0, hb⟩
      · intro h6
        replace h6 : b ≤ 247 := by omega
        refine L_pickF (by kernel_rfl) (L_nil (thenQ_normal (W_false (by kernel_rfl) (W_skip (thenQ_normal (W_seq (W_seq (W_region (L_mv (L_cmp .u8 b 224 (b < 224) rfl (cmp_lt b 224) (by kernel_rfl) (by kernel_rfl) ?_ ?_))))))))))
        · intro h7
          replace h7 : b < 224 := by omega
          refine L_nil (thenQ_normal (W_true (by kernel_rfl) (W_seq (W_region (L_as (L_nil (thenQ_normal (W_ret (thenQ_ret ?_)))))))))
          refine end_ret [.tmp 2] [(.int .i64 2)] rfl rfl ⟨by kernel_rfl, trivial⟩ ?_
          have e0 : 2 = longN b := by unfold longN; (repeat' split) <;> omega
          exact ⟨congrArg (fun x : Nat => Value.int .i64 (x : Int)) e0, hb⟩
        · intro h8
          replace h8 : 224 ≤ b := by omega
          refine L_nil (thenQ_normal (W_false (by kernel_rfl) (W_skip (thenQ_normal (W_seq (W_seq (W_region (L_mv (L_cmp .u8 b 240 (b < 240) rfl (cmp_lt b 240) (by kernel_rfl) (by kernel_rfl) ?_ ?_)))))))))
          · intro h9
            replace h9 : b < 240 := by omega
            refine L_nil (thenQ_normal (W_true (by kernel_rfl) (W_seq (W_region (L_as (L_nil (thenQ_normal (W_ret (thenQ_ret ?_)))))))))
            refine end_ret [.tmp 2] [(.int .i64 3)] rfl rfl ⟨by kernel_rfl, trivial⟩ ?_
            have e0 : 3 = longN b := by unfold longN; (repeat' split) <;> omega
            exact ⟨congrArg (fun x : Nat => Value.int .i64 (x : Int)) e0, hb⟩
          · intro h10
            replace h10 : 240 ≤ b := by omega
            refine L_nil (thenQ_normal (W_false (by kernel_rfl) (W_skip (thenQ_normal (W_seq (W_region (L_as (L_nil (thenQ_normal (W_ret ?_))))))))))
            refine end_ret [.tmp 2] [(.int .i64 4)] rfl rfl ⟨by kernel_rfl, trivial⟩ ?_
            have e0 : 4 = longN b := by unfold longN; (repeat' split) <;> omega
            exact ⟨congrArg (fun x : Nat => Value.int .i64 (x : Int)) e0, hb⟩

set_option maxHeartbeats 4000000 in
set_option maxRecDepth 100000 in
theorem c_furrowref01_Scalar (r : Int) (w : World) :
    Calls Try.prog 57 #[(.int .i32 r)] w (Ret fun v w' => v = (.bool (scalarB r)) ∧ Below w.heap.size w w') := by
  refine enter (args := [(.int .i32 r)]) Try.func57 rfl (by kernel_rfl : _ = 17) (by kernel_rfl) ?_
  have hb := Below.refl w.heap.size w
  have hs : w.heap.size ≤ w.heap.size := Nat.le_refl _
  refine W_seq (W_region (L_as (L_nil (thenQ_normal (W_seq (W_region (L_mv (L_cmp .i32 r 0 (0 ≤ r) rfl (cmp_ge r 0) (by kernel_rfl) (by kernel_rfl) ?_ ?_))))))))
  · intro h1
    replace h1 : 0 ≤ r := by omega
    refine L_mv (L_want (by kernel_rfl) (L_mv (L_want (by kernel_rfl) (L_cmp .i32 r 1114111 (r ≤ 1114111) rfl (cmp_le r 1114111) (by kernel_rfl) (by kernel_rfl) ?_ ?_))))
    · intro h2
      replace h2 : r ≤ 1114111 := by omega
      refine L_pickT (by kernel_rfl) (L_mv (L_want (by kernel_rfl) (L_mv (L_want (by kernel_rfl) (L_cmp .i32 r 55296 (r < 55296) rfl (cmp_lt r 55296) (by kernel_rfl) (by kernel_rfl) ?_ ?_)))))
      · intro h3
        replace h3 : r < 55296 := by omega
        refine L_want (by kernel_rfl) (L_mv (L_skip (by kernel_rfl) (L_skip (by kernel_rfl) (L_want (by kernel_rfl) (L_pickT (by kernel_rfl) (L_pickT (by kernel_rfl) (L_as (L_nil (thenQ_normal (W_ret ?_))))))))))
        refine end_ret [.tmp 2] [(.bool true)] rfl rfl ⟨by kernel_rfl, trivial⟩ ?_
        have e0 : true = scalarB r := by unfold scalarB; simp; omega
        exact ⟨congrArg Value.bool e0, hb⟩
      · intro h4
        replace h4 : 55296 ≤ r := by omega
        refine L_want (by kernel_rfl) (L_mv (L_want (by kernel_rfl) (L_mv (L_want (by kernel_rfl) (L_cmp .i32 r 57343 (57343 < r) rfl (cmp_gt r 57343) (by kernel_rfl) (by kernel_rfl) ?_ ?_)))))
        · intro h5
          replace h5 : 57343 < r := by omega
          refine L_want (by kernel_rfl) (L_pickF (by kernel_rfl) (L_pickT (by kernel_rfl) (L_as (L_nil (thenQ_normal (W_ret ?_))))))
          refine end_ret [.tmp 2] [(.bool true)] rfl rfl ⟨by kernel_rfl, trivial⟩ ?_
          have e0 : true = scalarB r := by unfold scalarB; simp; omega
          exact ⟨congrArg Value.bool e0, hb⟩
        · intro h6
          replace h6 : r ≤ 57343 := by omega
          refine L_want (by kernel_rfl) (L_pickF (by kernel_rfl) (L_pickT (by kernel_rfl) (L_as (L_nil (thenQ_normal (W_ret ?_))))))
          refine end_ret [.tmp 2] [(.bool false)] rfl rfl ⟨by kernel_rfl, trivial⟩ ?_
          have e0 : false = scalarB r := by unfold scalarB; simp; omega
          exact ⟨congrArg Value.bool e0, hb⟩
    · intro h7
      replace h7 : 1114111 < r := by omega
      refine L_pickT (by kernel_rfl) (L_mv (L_skip (by kernel_rfl) (L_skip (by kernel_rfl) (L_skip (by kernel_rfl) (L_skip (by kernel_rfl) (L_skip (by kernel_rfl) (L_skip (by kernel_rfl) (L_pickF (by kernel_rfl) (L_as (L_nil (thenQ_normal (W_ret ?_))))))))))))
      refine end_ret [.tmp 2] [(.bool false)] rfl rfl ⟨by kernel_rfl, trivial⟩ ?_
      have e0 : false = scalarB r := by unfold scalarB; simp; omega
      exact ⟨congrArg Value.bool e0, hb⟩
  · intro h8
    replace h8 : r < 0 := by omega
    refine L_mv (L_skip (by kernel_rfl) (L_skip (by kernel_rfl) (L_pickF (by kernel_rfl) (L_mv (L_skip (by kernel_rfl) (L_skip (by kernel_rfl) (L_skip (by kernel_rfl) (L_skip (by kernel_rfl) (L_skip (by kernel_rfl) (L_skip (by kernel_rfl) (L_pickF (by kernel_rfl) (L_as (L_nil (thenQ_normal (W_ret ?_)))))))))))))))
    refine end_ret [.tmp 2] [(.bool false)] rfl rfl ⟨by kernel_rfl, trivial⟩ ?_
    have e0 : false = scalarB r := by unfold scalarB; simp; omega
    exact ⟨congrArg Value.bool e0, hb⟩

set_option maxHeartbeats 4000000 in
set_option maxRecDepth 100000 in
theorem c_furrowref01_Width (r : Int) (w : World) :
    Calls Try.prog 53 #[(.int .i32 r)] w (Ret fun v w' => v = (.int .i64 ((widthN r : Nat) : Int)) ∧ Below w.heap.size w w') := by
  refine enter (args := [(.int .i32 r)]) Try.func53 rfl (by kernel_rfl : _ = 12) (by kernel_rfl) ?_
  have hb := Below.refl w.heap.size w
  have hs : w.heap.size ≤ w.heap.size := Nat.le_refl _
  refine W_seq (W_region (L_as (L_nil (thenQ_normal (W_seq (W_seq (W_region (L_mv (L_call 57 [(.int .i32 r)] (by kernel_rfl) (by kernel_rfl) (c_furrowref01_Scalar r _ ) ?_)))))))))
  rintro _ w1 ⟨rfl, hB2⟩
  replace hb := hb.trans (hB2.mono hs)
  replace hs := Nat.le_trans hs (hB2.size)
  refine put_split (scalarB r) ?_ ?_
  · intro h4
    refine L_not true (by kernel_rfl) (L_nil (thenQ_normal (W_false (by kernel_rfl) (W_skip (thenQ_normal (W_seq (W_seq (W_region (L_mv (L_cmp .i32 r 128 (r < 128) rfl (cmp_lt r 128) (by kernel_rfl) (by kernel_rfl) ?_ ?_))))))))))
    · intro h5
      replace h5 : r < 128 := by omega
      refine L_nil (thenQ_normal (W_true (by kernel_rfl) (W_seq (W_region (L_as (L_nil (thenQ_normal (W_ret (thenQ_ret ?_)))))))))
      refine end_ret [.tmp 2] [(.int .i64 1)] rfl rfl ⟨by kernel_rfl, trivial⟩ ?_
      have e0 : 1 = widthN r := by unfold widthN; (repeat' split) <;> first | rfl | omega | (simp_all; done)
      exact ⟨congrArg (fun x : Nat => Value.int .i64 (x : Int)) e0, hb⟩
    · intro h6
      replace h6 : 128 ≤ r := by omega
      refine L_nil (thenQ_normal (W_false (by kernel_rfl) (W_skip (thenQ_normal (W_seq (W_seq (W_region (L_mv (L_cmp .i32 r 2048 (r < 2048) rfl (cmp_lt r 2048) (by kernel_rfl) (by kernel_rfl) ?_ ?_)))))))))
      · intro h7
        replace h7 : r < 2048 := by omega
        refine L_nil (thenQ_normal (W_true (by kernel_rfl) (W_seq (W_region (L_as (L_nil (thenQ_normal (W_ret (thenQ_ret ?_)))))))))
        refine end_ret [.tmp 2] [(.int .i64 2)] rfl rfl ⟨by kernel_rfl, trivial⟩ ?_
        have e0 : 2 = widthN r := by unfold widthN; (repeat' split) <;> first | rfl | omega | (simp_all; done)
        exact ⟨congrArg (fun x : Nat => Value.int .i64 (x : Int)) e0, hb⟩
      · intro h8
        replace h8 : 2048 ≤ r := by omega
        refine L_nil (thenQ_normal (W_false (by kernel_rfl) (W_skip (thenQ_normal (W_seq (W_seq (W_region (L_mv (L_cmp .i32 r 65536 (r < 65536) rfl (cmp_lt r 65536) (by kernel_rfl) (by kernel_rfl) ?_ ?_)))))))))
        · intro h9
          replace h9 : r < 65536 := by omega
          refine L_nil (thenQ_normal (W_true (by kernel_rfl) (W_seq (W_region (L_as (L_nil (thenQ_normal (W_ret (thenQ_ret ?_)))))))))
          refine end_ret [.tmp 2] [(.int .i64 3)] rfl rfl ⟨by kernel_rfl, trivial⟩ ?_
          have e0 : 3 = widthN r := by unfold widthN; (repeat' split) <;> first | rfl | omega | (simp_all; done)
          exact ⟨congrArg (fun x : Nat => Value.int .i64 (x : Int)) e0, hb⟩
        · intro h10
          replace h10 : 65536 ≤ r := by omega
          refine L_nil (thenQ_normal (W_false (by kernel_rfl) (W_skip (thenQ_normal (W_seq (W_region (L_as (L_nil (thenQ_normal (W_ret ?_))))))))))
          refine end_ret [.tmp 2] [(.int .i64 4)] rfl rfl ⟨by kernel_rfl, trivial⟩ ?_
          have e0 : 4 = widthN r := by unfold widthN; (repeat' split) <;> first | rfl | omega | (simp_all; done)
          exact ⟨congrArg (fun x : Nat => Value.int .i64 (x : Int)) e0, hb⟩
  · intro h11
    refine L_not false (by kernel_rfl) (L_nil (thenQ_normal (W_true (by kernel_rfl) (W_seq (W_region (L_as (L_nil (thenQ_normal (W_ret (thenQ_ret ?_))))))))))
    refine end_ret [.tmp 2] [(.int .i64 0)] rfl rfl ⟨by kernel_rfl, trivial⟩ ?_
    have e0 : 0 = widthN r := by unfold widthN; (repeat' split) <;> first | rfl | omega | (simp_all; done)
    exact ⟨congrArg (fun x : Nat => Value.int .i64 (x : Int)) e0, hb⟩

set_option maxHeartbeats 4000000 in
set_option maxRecDepth 100000 in
theorem c_furrowref01_one (b : Int) (w : World) (h0 : 0 ≤ b) (h1 : b ≤ 255) :
    Calls Try.prog 54 #[(.int .i64 b)] w (Ret fun v w' => v = (S (bytesI [b])) ∧ Below w.heap.size w w') := by
  refine enter (args := [(.int .i64 b)]) Try.func54 rfl (by kernel_rfl : _ = 7) (by kernel_rfl) ?_
  have hb := Below.refl w.heap.size w
  have hs : w.heap.size ≤ w.heap.size := Nat.le_refl _
  refine W_seq (W_region (L_as (L_nil (thenQ_normal (W_seq (W_region (L_mv (L_conv (k := .i64) b b (by kernel_rfl) Try.underlying5 (by kernel_rfl) (wrap_u8 _ (by omega) (by omega)) (L_new (fun b => .slice (some ⟨b, 0, none⟩) 1 1) (.cells [(.int .u8 b)].toArray 5 (0, 0)) (by kernel_rfl) (by kernel_rfl) ?_)))))))))
  intro b1 w2 hN3
  have g_b1 : w.heap.size ≤ b1 := by rw [hN3.num]; exact hs
  replace hb := hb.trans (hN3.below.mono hs)
  replace hs := Nat.le_trans hs (hN3.below.size)
  have r_b1 : Row w2 w.heap.size 5 1 encU8 (.slice (some ⟨b1, 0, none⟩) 1 1) ([b] : List (Int)) := Row.made ([b] : List (Int)) hN3 g_b1 rfl rfl (by first | decide | (simp; done))
  refine L_bytesStr (.slice (some ⟨b1, 0, none⟩) 1 1) ([b] : List (Int)) Try.underlying56 Try.underlying5 Try.underlying9 (by kernel_rfl) r_b1.rd (L_as (L_nil (thenQ_normal (W_ret ?_))))
  refine end_ret [.tmp 2] [(S (bytesI ([b] : List (Int))))] rfl rfl ⟨by kernel_rfl, trivial⟩ ?_
  have e0 : (bytesI ([b] : List (Int))) = bytesI [b] := by rfl
  exact ⟨congrArg S e0, hb⟩

set_option maxHeartbeats 4000000 in
set_option maxRecDepth 100000 in
theorem c_furrowref01_Sequence (r : Int) (w : World) (r0 : -2147483648 ≤ r) (r1 : r ≤ 2147483647) :
    Calls Try.prog 47 #[(.int .i32 r)] w (Ret fun v w' => v = (S (encL [r])) ∧ Below w.heap.size w w') := by
  refine enter (args := [(.int .i32 r)]) Try.func47 rfl (by kernel_rfl : _ = 63) (by kernel_rfl) ?_
  have hb := Below.refl w.heap.size w
  have hs : w.heap.size ≤ w.heap.size := Nat.le_refl _
  refine W_seq (W_region (L_as (L_nil (thenQ_normal (W_seq (W_region (L_mv (L_conv (k := .i32) r r (by kernel_rfl) Try.underlying3 (by kernel_rfl) (wrap_i64 _ (by omega) (by omega)) (L_as (L_nil (thenQ_normal (W_seq (W_seq (W_region (L_mv (L_call 53 [(.int .i32 r)] (by kernel_rfl) (by kernel_rfl) (c_furrowref01_Width r _ ) ?_))))))))))))))))
  rintro _ w1 ⟨rfl, hB2⟩
  replace hb := hb.trans (hB2.mono hs)
  replace hs := Nat.le_trans hs (hB2.size)
  have := widthN_cases r
  refine L_nil (thenQ_normal (W_block (W_seq (W_region (L_cmp .i64 ((widthN r : Nat) : Int) ((1 : Nat) : Int) (widthN r = 1) rfl (cmpN_eq (widthN r) 1) (by kernel_rfl) (by kernel_rfl) ?_ ?_)))))
  · intro h4
    replace h4 : widthN r = 1 := by omega
    refine L_as (L_nil (thenQ_normal (W_true (by kernel_rfl) (W_seq (W_region (L_mv (L_call 54 [(.int .i64 r)] (by kernel_rfl) (by kernel_rfl) (c_furrowref01_one r _ (by first | omega | (simp at *; omega)) (by first | omega | (simp at *; omega))) ?_)))))))
    rintro _ w5 ⟨rfl, hB6⟩
    replace hb := hb.trans (hB6.mono hs)
    replace hs := Nat.le_trans hs (hB6.size)
    have := bytesI1_len r
    refine L_as (L_nil (thenQ_normal (W_ret (blkQ_ret (thenQ_ret ?_)))))
    refine end_ret [.tmp 2] [(S (bytesI [r]))] rfl rfl ⟨by kernel_rfl, trivial⟩ ?_
    have e0 : bytesI [r] = encL [r] := by first | exact seq1 (by assumption) | exact seq2 (by assumption) | exact seq3 (by assumption) | exact seq4 (by assumption) | exact seq0 (by omega)
    exact ⟨congrArg S e0, hb⟩
  · intro h8
    replace h8 : widthN r ≠ 1 := by omega
    refine L_as (L_nil (thenQ_normal (W_false (by kernel_rfl) (W_seq (W_region (L_cmp .i64 ((widthN r : Nat) : Int) ((2 : Nat) : Int) (widthN r = 2) rfl (cmpN_eq (widthN r) 2) (by kernel_rfl) (by kernel_rfl) ?_ ?_))))))
    · intro h9
      replace h9 : widthN r = 2 := by omega
      refine L_as (L_nil (thenQ_normal (W_true (by kernel_rfl) (W_seq (W_region (L_mv (L_quo (k := .i64) r 64 (r / 64) (by first | omega | (simp at *; omega)) (by first | omega | (simp at *; omega)) (by kernel_rfl) (by kernel_rfl) (wrap_i64 _ (by omega) (by omega)) (L_arith 192 (r / 64) (192 + (r / 64)) rfl (by kernel_rfl) (by kernel_rfl) (wrap_i64 _ (by simp only [arithZ]; omega) (by simp only [arithZ]; omega)) (L_call 54 [(.int .i64 (192 + (r / 64)))] (by kernel_rfl) (by kernel_rfl) (c_furrowref01_one (192 + (r / 64)) _ (by first | omega | (simp at *; omega)) (by first | omega | (simp at *; omega))) ?_)))))))))
      rintro _ w10 ⟨rfl, hB11⟩
      replace hb := hb.trans (hB11.mono hs)
      replace hs := Nat.le_trans hs (hB11.size)
      have := bytesI1_len (192 + (r / 64))
      refine L_mv (L_rem (k := .i64) r 64 (by first | omega | (simp at *; omega)) (by first | omega | (simp at *; omega)) (by kernel_rfl) (by kernel_rfl) (L_arith 128 (r % 64) (128 + (r % 64)) rfl (by kernel_rfl) (by kernel_rfl) (wrap_i64 _ (by simp only [arithZ]; omega) (by simp only [arithZ]; omega)) (L_call 54 [(.int .i64 (128 + (r % 64)))] (by kernel_rfl) (by kernel_rfl) (c_furrowref01_one (128 + (r % 64)) _ (by first | omega | (simp at *; omega)) (by first | omega | (simp at *; omega))) ?_)))
      rintro _ w13 ⟨rfl, hB14⟩
      replace hb := hb.trans (hB14.mono hs)
      replace hs := Nat.le_trans hs (hB14.size)
      have := bytesI1_len (128 + (r % 64))
      refine L_sadd (bytesI [(192 + (r / 64))]) (bytesI [(128 + (r % 64))]) (by first | omega | (simp only [List.length_append]; omega)) (by kernel_rfl) (by kernel_rfl) (L_as (L_nil (thenQ_normal (W_ret (blkQ_ret (thenQ_ret ?_))))))
      refine end_ret [.tmp 2] [(S (bytesI [(192 + (r / 64))] ++ bytesI [(128 + (r % 64))]))] rfl rfl ⟨by kernel_rfl, trivial⟩ ?_
      have e0 : (bytesI [(192 + (r / 64))] ++ bytesI [(128 + (r % 64))]) = encL [r] := by first | exact seq1 (by assumption) | exact seq2 (by assumption) | exact seq3 (by assumption) | exact seq4 (by assumption) | exact seq0 (by omega)
      exact ⟨congrArg S e0, hb⟩
    · intro h16
      replace h16 : widthN r ≠ 2 := by omega
      refine L_as (L_nil (thenQ_normal (W_false (by kernel_rfl) (W_seq (W_region (L_cmp .i64 ((widthN r : Nat) : Int) ((3 : Nat) : Int) (widthN r = 3) rfl (cmpN_eq (widthN r) 3) (by kernel_rfl) (by kernel_rfl) ?_ ?_))))))
      · intro h17
        replace h17 : widthN r = 3 := by omega
        refine L_as (L_nil (thenQ_normal (W_true (by kernel_rfl) (W_seq (W_region (L_mv (L_quo (k := .i64) r 4096 (r / 4096) (by first | omega | (simp at *; omega)) (by first | omega | (simp at *; omega)) (by kernel_rfl) (by kernel_rfl) (wrap_i64 _ (by omega) (by omega)) (L_arith 224 (r / 4096) (224 + (r / 4096)) rfl (by kernel_rfl) (by kernel_rfl) (wrap_i64 _ (by simp only [arithZ]; omega) (by simp only [arithZ]; omega)) (L_call 54 [(.int .i64 (224 + (r / 4096)))] (by kernel_rfl) (by kernel_rfl) (c_furrowref01_one (224 + (r / 4096)) _ (by first | omega | (simp at *; omega)) (by first | omega | (simp at *; omega))) ?_)))))))))
        rintro _ w18 ⟨rfl, hB19⟩
        replace hb := hb.trans (hB19.mono hs)
        replace hs := Nat.le_trans hs (hB19.size)
        have := bytesI1_len (224 + (r / 4096))
        refine L_mv (L_quo (k := .i64) r 64 (r / 64) (by first | omega | (simp at *; omega)) (by first | omega | (simp at *; omega)) (by kernel_rfl) (by kernel_rfl) (wrap_i64 _ (by omega) (by omega)) (L_rem (k := .i64) (r / 64) 64 (by first | omega | (simp at *; omega)) (by first | omega | (simp at *; omega)) (by kernel_rfl) (by kernel_rfl) (L_arith 128 ((r / 64) % 64) (128 + ((r / 64) % 64)) rfl (by kernel_rfl) (by kernel_rfl) (wrap_i64 _ (by simp only [arithZ]; omega) (by simp only [arithZ]; omega)) (L_call 54 [(.int .i64 (128 + ((r / 64) % 64)))] (by kernel_rfl) (by kernel_rfl) (c_furrowref01_one (128 + ((r / 64) % 64)) _ (by first | omega | (simp at *; omega)) (by first | omega | (simp at *; omega))) ?_))))
        rintro _ w21 ⟨rfl, hB22⟩
        replace hb := hb.trans (hB22.mono hs)
        replace hs := Nat.le_trans hs (hB22.size)
        have := bytesI1_len (128 + ((r / 64) % 64))
        refine L_sadd (bytesI [(224 + (r / 4096))]) (bytesI [(128 + ((r / 64) % 64))]) (by first | omega | (simp only [List.length_append]; omega)) (by kernel_rfl) (by kernel_rfl) (L_mv (L_rem (k := .i64) r 64 (by first | omega | (simp at *; omega)) (by first | omega | (simp at *; omega)) (by kernel_rfl) (by kernel_rfl) (L_arith 128 (r % 64) (128 + (r % 64)) rfl (by kernel_rfl) (by kernel_rfl) (wrap_i64 _ (by simp only [arithZ]; omega) (by simp only [arithZ]; omega)) (L_call 54 [(.int .i64 (128 + (r % 64)))] (by kernel_rfl) (by kernel_rfl) (c_furrowref01_one (128 + (r % 64)) _ (by first | omega | (simp at *; omega)) (by first | omega | (simp at *; omega))) ?_))))
        rintro _ w24 ⟨rfl, hB25⟩
        replace hb := hb.trans (hB25.mono hs)
        replace hs := Nat.le_trans hs (hB25.size)
        have := bytesI1_len (128 + (r % 64))
        refine L_sadd (bytesI [(224 + (r / 4096))] ++ bytesI [(128 + ((r / 64) % 64))]) (bytesI [(128 + (r % 64))]) (by first | omega | (simp only [List.length_append]; omega)) (by kernel_rfl) (by kernel_rfl) (L_as (L_nil (thenQ_normal (W_ret (blkQ_ret (thenQ_ret ?_))))))
        refine end_ret [.tmp 2] [(S ((bytesI [(224 + (r / 4096))] ++ bytesI [(128 + ((r / 64) % 64))]) ++ bytesI [(128 + (r % 64))]))] rfl rfl ⟨by kernel_rfl, trivial⟩ ?_
        have e0 : ((bytesI [(224 + (r / 4096))] ++ bytesI [(128 + ((r / 64) % 64))]) ++ bytesI [(128 + (r % 64))]) = encL [r] := by first | exact seq1 (by assumption) | exact seq2 (by assumption) | exact seq3 (by assumption) | exact seq4 (by assumption) | exact seq0 (by omega)
        exact ⟨congrArg S e0, hb⟩
      · intro h27
        replace h27 : widthN r ≠ 3 := by omega
        refine L_as (L_nil (thenQ_normal (W_false (by kernel_rfl) (W_seq (W_region (L_cmp .i64 ((widthN r : Nat) : Int) ((4 : Nat) : Int) (widthN r = 4) rfl (cmpN_eq (widthN r) 4) (by kernel_rfl) (by kernel_rfl) ?_ ?_))))))
        · intro h28
          replace h28 : widthN r = 4 := by omega
          refine L_as (L_nil (thenQ_normal (W_true (by kernel_rfl) (W_seq (W_region (L_mv (L_quo (k := .i64) r 262144 (r / 262144) (by first | omega | (simp at *; omega)) (by first | omega | (simp at *; omega)) (by kernel_rfl) (by kernel_rfl) (wrap_i64 _ (by omega) (by omega)) (L_arith 240 (r / 262144) (240 + (r / 262144)) rfl (by kernel_rfl) (by kernel_rfl) (wrap_i64 _ (by simp only [arithZ]; omega) (by simp only [arithZ]; omega)) (L_call 54 [(.int .i64 (240 + (r / 262144)))] (by kernel_rfl) (by kernel_rfl) (c_furrowref01_one (240 + (r / 262144)) _ (by first | omega | (simp at *; omega)) (by first | omega | (simp at *; omega))) ?_)))))))))
          rintro _ w29 ⟨rfl, hB30⟩
          replace hb := hb.trans (hB30.mono hs)
          replace hs := Nat.le_trans hs (hB30.size)
          have := bytesI1_len (240 + (r / 262144))
          refine L_mv (L_quo (k := .i64) r 4096 (r / 4096) (by first | omega | (simp at *; omega)) (by first | omega | (simp at *; omega)) (by kernel_rfl) (by kernel_rfl) (wrap_i64 _ (by omega) (by omega)) (L_rem (k := .i64) (r / 4096) 64 (by first | omega | (simp at *; omega)) (by first | omega | (simp at *; omega)) (by kernel_rfl) (by kernel_rfl) (L_arith 128 ((r / 4096) % 64) (128 + ((r / 4096) % 64)) rfl (by kernel_rfl) (by kernel_rfl) (wrap_i64 _ (by simp only [arithZ]; omega) (by simp only [arithZ]; omega)) (L_call 54 [(.int .i64 (128 + ((r / 4096) % 64)))] (by kernel_rfl) (by kernel_rfl) (c_furrowref01_one (128 + ((r / 4096) % 64)) _ (by first | omega | (simp at *; omega)) (by first | omega | (simp at *; omega))) ?_))))
          rintro _ w32 ⟨rfl, hB33⟩
          replace hb := hb.trans (hB33.mono hs)
          replace hs := Nat.le_trans hs (hB33.size)
          have := bytesI1_len (128 + ((r / 4096) % 64))
          refine L_sadd (bytesI [(240 + (r / 262144))]) (bytesI [(128 + ((r / 4096) % 64))]) (by first | omega | (simp only [List.length_append]; omega)) (by kernel_rfl) (by kernel_rfl) (L_mv (L_quo (k := .i64) r 64 (r / 64) (by first | omega | (simp at *; omega)) (by first | omega | (simp at *; omega)) (by kernel_rfl) (by kernel_rfl) (wrap_i64 _ (by omega) (by omega)) (L_rem (k := .i64) (r / 64) 64 (by first | omega | (simp at *; omega)) (by first | omega | (simp at *; omega)) (by kernel_rfl) (by kernel_rfl) (L_arith 128 ((r / 64) % 64) (128 + ((r / 64) % 64)) rfl (by kernel_rfl) (by kernel_rfl) (wrap_i64 _ (by simp only [arithZ]; omega) (by simp only [arithZ]; omega)) (L_call 54 [(.int .i64 (128 + ((r / 64) % 64)))] (by kernel_rfl) (by kernel_rfl) (c_furrowref01_one (128 + ((r / 64) % 64)) _ (by first | omega | (simp at *; omega)) (by first | omega | (simp at *; omega))) ?_)))))
          rintro _ w35 ⟨rfl, hB36⟩
          replace hb := hb.trans (hB36.mono hs)
          replace hs := Nat.le_trans hs (hB36.size)
          have := bytesI1_len (128 + ((r / 64) % 64))
          refine L_sadd (bytesI [(240 + (r / 262144))] ++ bytesI [(128 + ((r / 4096) % 64))]) (bytesI [(128 + ((r / 64) % 64))]) (by first | omega | (simp only [List.length_append]; omega)) (by kernel_rfl) (by kernel_rfl) (L_mv (L_rem (k := .i64) r 64 (by first | omega | (simp at *; omega)) (by first | omega | (simp at *; omega)) (by kernel_rfl) (by kernel_rfl) (L_arith 128 (r % 64) (128 + (r % 64)) rfl (by kernel_rfl) (by kernel_rfl) (wrap_i64 _ (by simp only [arithZ]; omega) (by simp only [arithZ]; omega)) (L_call 54 [(.int .i64 (128 + (r % 64)))] (by kernel_rfl) (by kernel_rfl) (c_furrowref01_one (128 + (r % 64)) _ (by first | omega | (simp at *; omega)) (by first | omega | (simp at *; omega))) ?_))))
          rintro _ w38 ⟨rfl, hB39⟩
          replace hb := hb.trans (hB39.mono hs)
          replace hs := Nat.le_trans hs (hB39.size)
          have := bytesI1_len (128 + (r % 64))
          refine L_sadd ((bytesI [(240 + (r / 262144))] ++ bytesI [(128 + ((r / 4096) % 64))]) ++ bytesI [(128 + ((r / 64) % 64))]) (bytesI [(128 + (r % 64))]) (by first | omega | (simp only [List.length_append]; omega)) (by kernel_rfl) (by kernel_rfl) (L_as (L_nil (thenQ_normal (W_ret (blkQ_ret (thenQ_ret ?_))))))
          refine end_ret [.tmp 2] [(S (((bytesI [(240 + (r / 262144))] ++ bytesI [(128 + ((r / 4096) % 64))]) ++ bytesI [(128 + ((r / 64) % 64))]) ++ bytesI [(128 + (r % 64))]))] rfl rfl ⟨by kernel_rfl, trivial⟩ ?_
          have e0 : (((bytesI [(240 + (r / 262144))] ++ bytesI [(128 + ((r / 4096) % 64))]) ++ bytesI [(128 + ((r / 64) % 64))]) ++ bytesI [(128 + (r % 64))]) = encL [r] := by first | exact seq1 (by assumption) | exact seq2 (by assumption) | exact seq3 (by assumption) | exact seq4 (by assumption) | exact seq0 (by omega)
          exact ⟨congrArg S e0, hb⟩
        · intro h41
          replace h41 : widthN r ≠ 4 := by omega
          refine L_as (L_nil (thenQ_normal (W_false (by kernel_rfl) (W_skip (blkQ_normal (thenQ_normal (W_seq (W_region (L_as (L_nil (thenQ_normal (W_ret ?_))))))))))))
          refine end_ret [.tmp 2] [(S ([239, 191, 189] : List UInt8))] rfl rfl ⟨by kernel_rfl, trivial⟩ ?_
          have e0 : ([239, 191, 189] : List UInt8) = encL [r] := by first | exact seq1 (by assumption) | exact seq2 (by assumption) | exact seq3 (by assumption) | exact seq4 (by assumption) | exact seq0 (by omega)
          exact ⟨congrArg S e0, hb⟩

set_option maxHeartbeats 4000000 in
set_option maxRecDepth 100000 in
theorem c_furrowref01_Encode (v_l : Value) (l : List (Int)) (w : World) (p_l : Rd w encI32 v_l l) (hl : l.length ≤ 1073741824) (hr : ∀ x ∈ l, -2147483648 ≤ x ∧ x ≤ 2147483647) :
    Calls Try.prog 43 #[v_l] w (Ret fun v w' => v = (S (encL l)) ∧ Below w.heap.size w w') := by
  refine enter (args := [v_l]) Try.func43 rfl (by kernel_rfl : _ = 19) (by kernel_rfl) ?_
  have hb := Below.refl w.heap.size w
  have hs : w.heap.size ≤ w.heap.size := Nat.le_refl _
  have in_p_l := p_l
  refine W_seq (W_region (L_as (L_nil (thenQ_normal (W_seq (W_region (L_as (L_nil (thenQ_normal (W_seq (W_seq (W_region (L_as (L_nil (thenQ_normal (W_block ?_))))))))))))))))
  refine W_loop (fun m s0 w0 => ∃ (i : Nat) (acc : List UInt8), (m = l.length - i) ∧ (s0.ds = []) ∧ (s0.f 0 = v_l) ∧ (s0.f 2 = (S ([] : List UInt8))) ∧ (s0.f 3 = (S acc)) ∧ (s0.f 4 = (.int .i64 ((i : Nat) : Int))) ∧ (Rd w0 encI32 v_l l) ∧ (Below w.heap.size w w0) ∧ (w.heap.size ≤ w0.heap.size) ∧ (i ≤ l.length) ∧ (acc = encL (l.take i))) _ ⟨0, ([] : List UInt8), rfl, by kernel_rfl, by kernel_rfl, by kernel_rfl, by kernel_rfl, by kernel_rfl, p_l, hb, hs, by omega, rfl⟩ ?_
  rintro m1 s2 w3 ⟨i, acc, hm, hds, f_0, f_2, f_3, f_4, p_l, hb, hs, i1, i2⟩
  refine W_set 0 _ f_0 (W_set 2 _ f_2 (W_set 3 _ f_3 (W_set 4 _ f_4 ?_)))
  clear f_0 f_2 f_3 f_4
  have ha : acc.length ≤ 4 * l.length := by rw [i2]; exact encTake_len l i
  refine W_seq (W_seq (W_region (L_mv (L_mv (L_len 64 21 (l).length v_l rfl Try.underlying64 (p_l).len (by kernel_rfl) (L_cmp .i64 ((i : Nat) : Int) (((l).length : Nat) : Int) (i < (l).length) rfl (cmpN_lt i ((l).length)) (by kernel_rfl) (by kernel_rfl) ?_ ?_))))))
  · intro h4
    replace h4 : i < (l).length := by omega
    refine L_nil (thenQ_normal (W_true (by kernel_rfl) (W_skip (thenQ_normal (W_seq (W_block (W_region (L_mv (L_mv (L_mv ?_))))))))))
    obtain ⟨x5, hx6⟩ := get_some l i (by omega)
    have hz := (p_l).at (k := 1) (fun _ => rfl) hx6
    obtain ⟨g7, off8, hl9, hc10⟩ := hz
    have hxr := hr _ (List.mem_of_getElem? hx6)
    refine L_ixaddr (k := .i64) v_l i _ g7 off8 el64 hl9 (by omega) (by kernel_rfl) (by kernel_rfl) (L_load g7 (off8 + i * 1) (.int .i32 x5) (by kernel_rfl) (by kernel_rfl) (hc10 0 _ rfl) (L_call 47 [(.int .i32 x5)] (by kernel_rfl) (by kernel_rfl) (c_furrowref01_Sequence x5 _ (by omega) (by omega)) ?_))
    rintro _ w11 ⟨rfl, hB12⟩
    replace hb := hb.trans (hB12.mono hs)
    replace hs := Nat.le_trans hs (hB12.size)
    replace p_l := p_l.below hB12
    have := encL1_len x5
    refine L_sadd acc (encL [x5]) (by first | omega | (simp only [List.length_append]; omega)) (by kernel_rfl) (by kernel_rfl) (L_as (L_nil (blkQ_normal (thenQ_normal (W_region (L_mv (L_addN i 1 (by omega) (by kernel_rfl) (by kernel_rfl) (L_as (L_nil ?_)))))))))
    refine thenQ_normal ⟨_, ?_, (i + 1), (acc ++ encL [x5]), rfl, hds, by kernel_rfl, by kernel_rfl, by kernel_rfl, by kernel_rfl, p_l, hb, hs, ?_, ?_⟩
    · omega
    · omega
    · rw [i2]; exact encL_take (by assumption)
  · intro h14
    replace h14 : (l).length ≤ i := by omega
    refine L_nil (thenQ_normal (W_false (by kernel_rfl) (W_exit (thenQ_exit (thenQ_exit (blkQ_exit (thenQ_normal (W_seq (W_region (L_mv (L_as (L_nil (thenQ_normal (W_ret ?_))))))))))))))
    refine end_ret [.tmp 2] [(S acc)] rfl hds ⟨by kernel_rfl, trivial⟩ ?_
    have e0 : acc = encL l := by rw [i2, List.take_of_length_le (by omega)]
    exact ⟨congrArg S e0, hb⟩

set_option maxHeartbeats 4000000 in
set_option maxRecDepth 100000 in
theorem c_furrowref01_At (s : List UInt8) (p : Nat) (w : World) (hs : s.length ≤ 1073741824) (hp : p < s.length) :
    Calls Try.prog 46 #[(S s), (.int .i64 ((p : Nat) : Int))] w (Ret fun v w' => v = (Value.agg #[(.int .i64 ((p : Nat) : Int)), (.int .i64 (((atF s p).1 : Nat) : Int)), (.int .i32 ((atF s p).2.1)), (.int .i64 ((atF s p).2.2))]) ∧ Below w.heap.size w w') := by
  refine enter (args := [(S s), (.int .i64 ((p : Nat) : Int))]) Try.func46 rfl (by kernel_rfl : _ = 90) (by kernel_rfl) ?_
  have hb := Below.refl w.heap.size w
  have hs : w.heap.size ≤ w.heap.size := Nat.le_refl _
  have hb5 := bitsT_len
  have hl5 := leastT_len
  refine W_seq (W_region (L_new (fun b => .pointer (some ⟨b, 0, none⟩)) (.cells [(.int .i64 0), (.int .i64 0), (.int .i32 0), (.int .i64 0)].toArray 62 (0, 0)) (by kernel_rfl) (by kernel_rfl) ?_))
  intro b1 w2 hN3
  have g_x4 : w.heap.size ≤ b1 := by rw [hN3.num]; exact hs
  replace hb := hb.trans (hN3.below.mono hs)
  replace hs := Nat.le_trans hs (hN3.below.size)
  have o_x4 := hN3.here
  refine L_nil (thenQ_normal (W_seq (W_region (L_mv (L_run (Value.agg #[(.int .i64 ((p : Nat) : Int)), (.int .i64 1), (.int .i32 65533), (.int .i64 0)]) (by kernel_rfl) (by kernel_rfl) (L_new (fun b => .pointer (some ⟨b, 0, none⟩)) (.cells [(.int .i64 0), (.int .i64 0), (.int .i32 0), (.int .i64 0)].toArray 62 (0, 0)) (by kernel_rfl) (by kernel_rfl) ?_))))))
  intro b4 w5 hN6
  have ne_x4_x5 : b1 ≠ b4 := by have := obj_lt o_x4; have := hN6.num; omega
  have ne_x5_x4 := ne_x4_x5.symm
  have g_x5 : w.heap.size ≤ b4 := by rw [hN6.num]; exact hs
  replace hb := hb.trans (hN6.below.mono hs)
  replace hs := Nat.le_trans hs (hN6.below.size)
  replace o_x4 := obj_below o_x4 hN6.below
  have o_x5 := hN6.here
  refine L_storeA b4 0 [(.int .i64 ((p : Nat) : Int)), (.int .i64 1), (.int .i32 65533), (.int .i64 0)] [(.int .i64 0), (.int .i64 0), (.int .i32 0), (.int .i64 0)] [(.int .i64 ((p : Nat) : Int)), (.int .i64 1), (.int .i32 65533), (.int .i64 0)] 62 (by kernel_rfl) (by kernel_rfl) rfl (by kernel_rfl) o_x5 (by kernel_rfl) rfl ?_
  intro w7 hW8
  replace hb := hb.trans (hW8.below g_x5)
  replace hs := Nat.le_trans hs (Nat.le_of_eq hW8.size.symm)
  have n_o_x4 := obj_wrote o_x4 hW8 ne_x4_x5
  replace o_x4 := n_o_x4; clear n_o_x4
  replace o_x5 := hW8.here
  refine L_nil (thenQ_normal (W_seq (W_region (L_mv (L_mv ?_)))))
  obtain ⟨c9, hc10⟩ := get_some s p (by omega)
  have := c9.toNat_lt
  refine L_sindex (k := .i64) s p c9 Try.underlying9 hc10 (by kernel_rfl) (by kernel_rfl) (L_call 52 [(.int .u8 ((c9.toNat : Nat) : Int))] (by kernel_rfl) (by kernel_rfl) (c_furrowref01_long ((c9.toNat : Nat) : Int) _ ) ?_)
  rintro _ w11 ⟨rfl, hB12⟩
  replace hb := hb.trans (hB12.mono hs)
  replace hs := Nat.le_trans hs (hB12.size)
  replace o_x4 := obj_below o_x4 hB12
  replace o_x5 := obj_below o_x5 hB12
  have := longN_le ((c9.toNat : Nat) : Int)
  refine L_as (L_nil (thenQ_normal (W_seq (W_seq (W_region (L_mv (L_cmp .i64 ((longN ((c9.toNat : Nat) : Int) : Nat) : Int) ((0 : Nat) : Int) (longN ((c9.toNat : Nat) : Int) = 0) rfl (cmpN_eq (longN ((c9.toNat : Nat) : Int)) 0) (by kernel_rfl) (by kernel_rfl) ?_ ?_)))))))
  · intro h14
    replace h14 : longN ((c9.toNat : Nat) : Int) = 0 := by omega
    refine L_nil (thenQ_normal (W_true (by kernel_rfl) (W_seq (W_region (L_run (.pointer (some ⟨b4, 3, none⟩)) (by kernel_rfl) (by kernel_rfl) (L_store b4 3 (.int .i64 10) [(.int .i64 ((p : Nat) : Int)), (.int .i64 1), (.int .i32 65533), (.int .i64 0)] [(.int .i64 ((p : Nat) : Int)), (.int .i64 1), (.int .i32 65533), (.int .i64 10)] 62 (by kernel_rfl) (by kernel_rfl) rfl (by kernel_rfl) o_x5 (by simp) rfl ?_))))))
    intro w15 hW16
    replace hb := hb.trans (hW16.below g_x5)
    replace hs := Nat.le_trans hs (Nat.le_of_eq hW16.size.symm)
    have n_o_x4 := obj_wrote o_x4 hW16 ne_x4_x5
    replace o_x4 := n_o_x4; clear n_o_x4
    replace o_x5 := hW16.here
    refine L_nil (thenQ_normal (W_seq (W_region (L_loadA b4 0 [(.int .i64 ((p : Nat) : Int)), (.int .i64 1), (.int .i32 65533), (.int .i64 10)] (by kernel_rfl) (by kernel_rfl) (by kernel_rfl) (cells_at o_x5 0 (by kernel_rfl)) (L_storeA b1 0 [(.int .i64 ((p : Nat) : Int)), (.int .i64 1), (.int .i32 65533), (.int .i64 10)] [(.int .i64 0), (.int .i64 0), (.int .i32 0), (.int .i64 0)] [(.int .i64 ((p : Nat) : Int)), (.int .i64 1), (.int .i32 65533), (.int .i64 10)] 62 (by kernel_rfl) (by kernel_rfl) rfl (by kernel_rfl) o_x4 (by kernel_rfl) rfl ?_)))))
    intro w17 hW18
    replace hb := hb.trans (hW18.below g_x4)
    replace hs := Nat.le_trans hs (Nat.le_of_eq hW18.size.symm)
    have n_o_x5 := obj_wrote o_x5 hW18 ne_x5_x4
    replace o_x5 := n_o_x5; clear n_o_x5
    replace o_x4 := hW18.here
    refine L_nil (thenQ_normal (W_ret (thenQ_ret ?_)))
    refine end_ret [.cell 4 62] [(Value.agg #[(.int .i64 ((p : Nat) : Int)), (.int .i64 1), (.int .i32 65533), (.int .i64 10)])] rfl rfl ⟨⟨⟨b1, 0, none⟩, by kernel_rfl, load_agg [(.int .i64 ((p : Nat) : Int)), (.int .i64 1), (.int .i32 65533), (.int .i64 10)] (by kernel_rfl) (by kernel_rfl) (cells_obj o_x4)⟩, trivial⟩ ?_
    have e0 : (Value.agg #[(.int .i64 ((p : Nat) : Int)), (.int .i64 1), (.int .i32 65533), (.int .i64 10)]) = (Value.agg #[(.int .i64 ((p : Nat) : Int)), (.int .i64 (((atF s p).1 : Nat) : Int)), (.int .i32 ((atF s p).2.1)), (.int .i64 ((atF s p).2.2))]) := by first | (exfalso; omega) | (rw [at_lead hc10 (by assumption)]; try rfl; done) | (rw [← i3, atH_eq hc10, at_cut (by assumption) (by assumption)]; try rfl; done) | (rw [← i3, atH_eq hc10, at_tail (by assumption) (by assumption) (by omega)]; try rfl; done) | (rw [← i3, atH_eq hc10, at_over (by assumption) (by assumption) (by assumption)]; try rfl; done) | (rw [← i3, atH_eq hc10, at_half (by assumption) (by assumption) (by assumption) (by omega) (by omega)]; try rfl; done) | (rw [← i3, atH_eq hc10, at_past (by assumption) (by assumption) (by assumption) (by omega)]; try rfl; done) | (rw [← i3, atH_eq hc10, at_good (by assumption) (by assumption) (by assumption) (by omega) (by omega)]; try rfl; done)
    exact ⟨e0, hb⟩
  · intro h19
    replace h19 : longN ((c9.toNat : Nat) : Int) ≠ 0 := by omega
    refine L_nil (thenQ_normal (W_false (by kernel_rfl) (W_skip (thenQ_normal (W_seq (W_region (L_new (fun b => .slice (some ⟨b, 0, none⟩) 5 5) (.cells [(.int .i64 0), (.int .i64 127), (.int .i64 31), (.int .i64 15), (.int .i64 7)].toArray 3 (0, 0)) (by kernel_rfl) (by kernel_rfl) ?_)))))))
    intro b20 w21 hN22
    have g_b20 : w.heap.size ≤ b20 := by rw [hN22.num]; exact hs
    replace hb := hb.trans (hN22.below.mono hs)
    replace hs := Nat.le_trans hs (hN22.below.size)
    replace o_x4 := obj_below o_x4 hN22.below
    replace o_x5 := obj_below o_x5 hN22.below
    have r_b20 : Row w21 w.heap.size 3 1 encNat (.slice (some ⟨b20, 0, none⟩) 5 5) bitsT := Row.made bitsT hN22 g_b20 rfl rfl (by first | decide | (simp; done))
    refine L_as (L_nil (thenQ_normal (W_seq (W_quiet (by kernel_rfl) (by kernel_rfl) (Lq_mv (Lq_mv ?_))))))
    refine Lq_sindex (k := .i64) s p c9 Try.underlying9 hc10 (by kernel_rfl) (by kernel_rfl) (Lq_conv (k := .u8) ((c9.toNat : Nat) : Int) ((c9.toNat : Nat) : Int) (by kernel_rfl) Try.underlying3 (by kernel_rfl) (wrap_i64 _ (by omega) (by omega)) (Lq_mv (Lq_mv ?_)))
    obtain ⟨x23, hx24⟩ := get_some bitsT (longN ((c9.toNat : Nat) : Int)) (by omega)
    have hz := (r_b20.rd).at (k := 1) (fun _ => rfl) hx24
    obtain ⟨g25, off26, hl27, hc28⟩ := hz
    have hm127 := bitsT_le hx24
    refine Lq_ixaddr (k := .i64) (.slice (some ⟨b20, 0, none⟩) 5 5) (longN ((c9.toNat : Nat) : Int)) _ g25 off26 el83 hl27 (by omega) (by kernel_rfl) (by kernel_rfl) (Lq_load g25 (off26 + (longN ((c9.toNat : Nat) : Int)) * 1) (.int .i64 ((x23 : Nat) : Int)) (by kernel_rfl) (fun _ => by kernel_rfl) (hc28 0 _ rfl) (Lq_andN c9.toNat x23 (by omega) (by omega) (by kernel_rfl) (by kernel_rfl) (Lq_as (Lq_nil ?_))))
    intro w29 hB30
    replace hb := hb.trans (hB30.mono hs)
    replace hs := Nat.le_trans hs (hB30.size)
    replace o_x4 := obj_below o_x4 hB30
    replace o_x5 := obj_below o_x5 hB30
    replace r_b20 := r_b20.below hB30
    refine thenQ_normal (W_seq (W_seq (W_region (L_as (L_nil (thenQ_normal (W_block ?_)))))))
    refine W_loop (fun m s0 w0 => ∃ (i : Nat) (x : Nat), (m = 5 - i) ∧ (s0.ds = []) ∧ (s0.f 0 = (S s)) ∧ (s0.f 1 = (.int .i64 ((p : Nat) : Int))) ∧ (s0.f 4 = (.pointer (some ⟨b1, 0, none⟩))) ∧ (s0.f 5 = (.pointer (some ⟨b4, 0, none⟩))) ∧ (s0.f 6 = (.int .i64 ((longN ((c9.toNat : Nat) : Int) : Nat) : Int))) ∧ (s0.f 8 = (.int .i64 ((x : Nat) : Int))) ∧ (s0.f 9 = (.int .i64 ((i : Nat) : Int))) ∧ (Row w0 w.heap.size 3 1 encNat (.slice (some ⟨b20, 0, none⟩) 5 5) bitsT) ∧ (w0.heap[b1]? = some (.cells [(.int .i64 0), (.int .i64 0), (.int .i32 0), (.int .i64 0)].toArray 62 (0, 0))) ∧ (w0.heap[b4]? = some (.cells [(.int .i64 ((p : Nat) : Int)), (.int .i64 1), (.int .i32 65533), (.int .i64 0)].toArray 62 (0, 0))) ∧ (Below w.heap.size w w0) ∧ (w.heap.size ≤ w0.heap.size) ∧ (1 ≤ i) ∧ (i ≤ 4) ∧ (i = 1 ∧ x ≤ 127 ∨ i = 2 ∧ x ≤ 8191 ∨ i = 3 ∧ x ≤ 524287 ∨ i = 4 ∧ x ≤ 33554431) ∧ (atH s p i x = atF s p)) _ ⟨1, (c9.toNat &&& x23), rfl, by kernel_rfl, by kernel_rfl, by kernel_rfl, by kernel_rfl, by kernel_rfl, by kernel_rfl, by kernel_rfl, by kernel_rfl, r_b20, o_x4, o_x5, hb, hs, by omega, by omega, Or.inl ⟨rfl, and_bits (by assumption)⟩, (atH_eq hc10).trans (at_start hc10 (by assumption) (by assumption) (by assumption))⟩ ?_
    rintro m31 s32 w33 ⟨i, x, hm, hds, f_0, f_1, f_4, f_5, f_6, f_8, f_9, r_b20, o_x4, o_x5, hb, hs, i1, i2, i4, i3⟩
    refine W_set 0 _ f_0 (W_set 1 _ f_1 (W_set 4 _ f_4 (W_set 5 _ f_5 (W_set 6 _ f_6 (W_set 8 _ f_8 (W_set 9 _ f_9 ?_))))))
    clear f_0 f_1 f_4 f_5 f_6 f_8 f_9
    refine W_seq (W_seq (W_region (L_mv (L_mv (L_cmp .i64 ((i : Nat) : Int) ((longN ((c9.toNat : Nat) : Int) : Nat) : Int) (i < longN ((c9.toNat : Nat) : Int)) rfl (cmpN_lt i (longN ((c9.toNat : Nat) : Int))) (by kernel_rfl) (by kernel_rfl) ?_ ?_)))))
    · intro h34
      replace h34 : i < longN ((c9.toNat : Nat) : Int) := by omega
      refine L_nil (thenQ_normal (W_true (by kernel_rfl) (W_skip (thenQ_normal (W_seq (W_block (W_seq (W_seq (W_region (L_mv (L_mv (L_addN p i (by omega) (by kernel_rfl) (by kernel_rfl) (L_mv (L_slen 9 s rfl Try.underlying9 (by kernel_rfl) (L_cmp .i64 (((p + i) : Nat) : Int) (((s).length : Nat) : Int) ((s).length ≤ (p + i)) rfl (cmpN_ge (p + i) ((s).length)) (by kernel_rfl) (by kernel_rfl) ?_ ?_)))))))))))))))
      · intro h35
        replace h35 : (s).length ≤ (p + i) := by omega
        refine L_nil (thenQ_normal (W_true (by kernel_rfl) (W_seq (W_region (L_run (.pointer (some ⟨b4, 3, none⟩)) (by kernel_rfl) (by kernel_rfl) (L_store b4 3 (.int .i64 11) [(.int .i64 ((p : Nat) : Int)), (.int .i64 1), (.int .i32 65533), (.int .i64 0)] [(.int .i64 ((p : Nat) : Int)), (.int .i64 1), (.int .i32 65533), (.int .i64 11)] 62 (by kernel_rfl) (by kernel_rfl) rfl (by kernel_rfl) o_x5 (by simp) rfl ?_))))))
        intro w36 hW37
        replace hb := hb.trans (hW37.below g_x5)
        replace hs := Nat.le_trans hs (Nat.le_of_eq hW37.size.symm)
        have n_o_x4 := obj_wrote o_x4 hW37 ne_x4_x5
        have n_r_b20 := r_b20.wrote hW37 (r_b20.ne o_x5 (by simp))
        replace o_x4 := n_o_x4; clear n_o_x4
        replace r_b20 := n_r_b20; clear n_r_b20
        replace o_x5 := hW37.here
        refine L_nil (thenQ_normal (W_seq (W_region (L_loadA b4 0 [(.int .i64 ((p : Nat) : Int)), (.int .i64 1), (.int .i32 65533), (.int .i64 11)] (by kernel_rfl) (by kernel_rfl) (by kernel_rfl) (cells_at o_x5 0 (by kernel_rfl)) (L_storeA b1 0 [(.int .i64 ((p : Nat) : Int)), (.int .i64 1), (.int .i32 65533), (.int .i64 11)] [(.int .i64 0), (.int .i64 0), (.int .i32 0), (.int .i64 0)] [(.int .i64 ((p : Nat) : Int)), (.int .i64 1), (.int .i32 65533), (.int .i64 11)] 62 (by kernel_rfl) (by kernel_rfl) rfl (by kernel_rfl) o_x4 (by kernel_rfl) rfl ?_)))))
        intro w38 hW39
        replace hb := hb.trans (hW39.below g_x4)
        replace hs := Nat.le_trans hs (Nat.le_of_eq hW39.size.symm)
        have n_o_x5 := obj_wrote o_x5 hW39 ne_x5_x4
        have n_r_b20 := r_b20.wrote hW39 (r_b20.ne o_x4 (by simp))
        replace o_x5 := n_o_x5; clear n_o_x5
        replace r_b20 := n_r_b20; clear n_r_b20
        replace o_x4 := hW39.here
        refine L_nil (thenQ_normal (W_ret (thenQ_ret (blkQ_ret (thenQ_ret (thenQ_ret (blkQ_ret (thenQ_ret ?_))))))))
        refine end_ret [.cell 4 62] [(Value.agg #[(.int .i64 ((p : Nat) : Int)), (.int .i64 1), (.int .i32 65533), (.int .i64 11)])] rfl hds ⟨⟨⟨b1, 0, none⟩, by kernel_rfl, load_agg [(.int .i64 ((p : Nat) : Int)), (.int .i64 1), (.int .i32 65533), (.int .i64 11)] (by kernel_rfl) (by kernel_rfl) (cells_obj o_x4)⟩, trivial⟩ ?_
        have e0 : (Value.agg #[(.int .i64 ((p : Nat) : Int)), (.int .i64 1), (.int .i32 65533), (.int .i64 11)]) = (Value.agg #[(.int .i64 ((p : Nat) : Int)), (.int .i64 (((atF s p).1 : Nat) : Int)), (.int .i32 ((atF s p).2.1)), (.int .i64 ((atF s p).2.2))]) := by first | (exfalso; omega) | (rw [at_lead hc10 (by assumption)]; try rfl; done) | (rw [← i3, atH_eq hc10, at_cut (by assumption) (by assumption)]; try rfl; done) | (rw [← i3, atH_eq hc10, at_tail (by assumption) (by assumption) (by omega)]; try rfl; done) | (rw [← i3, atH_eq hc10, at_over (by assumption) (by assumption) (by assumption)]; try rfl; done) | (rw [← i3, atH_eq hc10, at_half (by assumption) (by assumption) (by assumption) (by omega) (by omega)]; try rfl; done) | (rw [← i3, atH_eq hc10, at_past (by assumption) (by assumption) (by assumption) (by omega)]; try rfl; done) | (rw [← i3, atH_eq hc10, at_good (by assumption) (by assumption) (by assumption) (by omega) (by omega)]; try rfl; done)
        exact ⟨e0, hb⟩
      · intro h40
        replace h40 : (p + i) < (s).length := by omega
        refine L_nil (thenQ_normal (W_false (by kernel_rfl) (W_skip (thenQ_normal (W_seq (W_region (L_mv (L_mv (L_mv (L_addN p i (by omega) (by kernel_rfl) (by kernel_rfl) ?_))))))))))
        obtain ⟨c41, hc42⟩ := get_some s (p + i) (by omega)
        have := c41.toNat_lt
        refine L_sindex (k := .i64) s (p + i) c41 Try.underlying9 hc42 (by kernel_rfl) (by kernel_rfl) (L_conv (k := .u8) ((c41.toNat : Nat) : Int) ((c41.toNat : Nat) : Int) (by kernel_rfl) Try.underlying3 (by kernel_rfl) (wrap_i64 _ (by omega) (by omega)) (L_as (L_nil (thenQ_normal (W_seq (W_seq (W_region (L_mv (L_cmp .i64 ((c41.toNat : Nat) : Int) ((128 : Nat) : Int) (c41.toNat < 128) rfl (cmpN_lt c41.toNat 128) (by kernel_rfl) (by kernel_rfl) ?_ ?_)))))))))
        · intro h43
          replace h43 : c41.toNat < 128 := by omega
          refine L_mv (L_skip (by kernel_rfl) (L_skip (by kernel_rfl) (L_pickT (by kernel_rfl) (L_nil (thenQ_normal (W_true (by kernel_rfl) (W_seq (W_region (L_run (.pointer (some ⟨b4, 3, none⟩)) (by kernel_rfl) (by kernel_rfl) (L_store b4 3 (.int .i64 12) [(.int .i64 ((p : Nat) : Int)), (.int .i64 1), (.int .i32 65533), (.int .i64 0)] [(.int .i64 ((p : Nat) : Int)), (.int .i64 1), (.int .i32 65533), (.int .i64 12)] 62 (by kernel_rfl) (by kernel_rfl) rfl (by kernel_rfl) o_x5 (by simp) rfl ?_))))))))))
          intro w44 hW45
          replace hb := hb.trans (hW45.below g_x5)
          replace hs := Nat.le_trans hs (Nat.le_of_eq hW45.size.symm)
          have n_o_x4 := obj_wrote o_x4 hW45 ne_x4_x5
          have n_r_b20 := r_b20.wrote hW45 (r_b20.ne o_x5 (by simp))
          replace o_x4 := n_o_x4; clear n_o_x4
          replace r_b20 := n_r_b20; clear n_r_b20
          replace o_x5 := hW45.here
          refine L_nil (thenQ_normal (W_seq (W_region (L_loadA b4 0 [(.int .i64 ((p : Nat) : Int)), (.int .i64 1), (.int .i32 65533), (.int .i64 12)] (by kernel_rfl) (by kernel_rfl) (by kernel_rfl) (cells_at o_x5 0 (by kernel_rfl)) (L_storeA b1 0 [(.int .i64 ((p : Nat) : Int)), (.int .i64 1), (.int .i32 65533), (.int .i64 12)] [(.int .i64 0), (.int .i64 0), (.int .i32 0), (.int .i64 0)] [(.int .i64 ((p : Nat) : Int)), (.int .i64 1), (.int .i32 65533), (.int .i64 12)] 62 (by kernel_rfl) (by kernel_rfl) rfl (by kernel_rfl) o_x4 (by kernel_rfl) rfl ?_)))))
          intro w46 hW47
          replace hb := hb.trans (hW47.below g_x4)
          replace hs := Nat.le_trans hs (Nat.le_of_eq hW47.size.symm)
          have n_o_x5 := obj_wrote o_x5 hW47 ne_x5_x4
          have n_r_b20 := r_b20.wrote hW47 (r_b20.ne o_x4 (by simp))
          replace o_x5 := n_o_x5; clear n_o_x5
          replace r_b20 := n_r_b20; clear n_r_b20
          replace o_x4 := hW47.here
          refine L_nil (thenQ_normal (W_ret (thenQ_ret (blkQ_ret (thenQ_ret (thenQ_ret (blkQ_ret (thenQ_ret ?_))))))))
          refine end_ret [.cell 4 62] [(Value.agg #[(.int .i64 ((p : Nat) : Int)), (.int .i64 1), (.int .i32 65533), (.int .i64 12)])] rfl hds ⟨⟨⟨b1, 0, none⟩, by kernel_rfl, load_agg [(.int .i64 ((p : Nat) : Int)), (.int .i64 1), (.int .i32 65533), (.int .i64 12)] (by kernel_rfl) (by kernel_rfl) (cells_obj o_x4)⟩, trivial⟩ ?_
          have e0 : (Value.agg #[(.int .i64 ((p : Nat) : Int)), (.int .i64 1), (.int .i32 65533), (.int .i64 12)]) = (Value.agg #[(.int .i64 ((p : Nat) : Int)), (.int .i64 (((atF s p).1 : Nat) : Int)), (.int .i32 ((atF s p).2.1)), (.int .i64 ((atF s p).2.2))]) := by first | (exfalso; omega) | (rw [at_lead hc10 (by assumption)]; try rfl; done) | (rw [← i3, atH_eq hc10, at_cut (by assumption) (by assumption)]; try rfl; done) | (rw [← i3, atH_eq hc10, at_tail (by assumption) (by assumption) (by omega)]; try rfl; done) | (rw [← i3, atH_eq hc10, at_over (by assumption) (by assumption) (by assumption)]; try rfl; done) | (rw [← i3, atH_eq hc10, at_half (by assumption) (by assumption) (by assumption) (by omega) (by omega)]; try rfl; done) | (rw [← i3, atH_eq hc10, at_past (by assumption) (by assumption) (by assumption) (by omega)]; try rfl; done) | (rw [← i3, atH_eq hc10, at_good (by assumption) (by assumption) (by assumption) (by omega) (by omega)]; try rfl; done)
          exact ⟨e0, hb⟩
        · intro h48
          replace h48 : 128 ≤ c41.toNat := by omega
          refine L_mv (L_want (by kernel_rfl) (L_mv (L_want (by kernel_rfl) (L_cmp .i64 ((c41.toNat : Nat) : Int) ((191 : Nat) : Int) (191 < c41.toNat) rfl (cmpN_gt c41.toNat 191) (by kernel_rfl) (by kernel_rfl) ?_ ?_))))
          · intro h49
            replace h49 : 191 < c41.toNat := by omega
            refine L_pickF (by kernel_rfl) (L_nil (thenQ_normal (W_true (by kernel_rfl) (W_seq (W_region (L_run (.pointer (some ⟨b4, 3, none⟩)) (by kernel_rfl) (by kernel_rfl) (L_store b4 3 (.int .i64 12) [(.int .i64 ((p : Nat) : Int)), (.int .i64 1), (.int .i32 65533), (.int .i64 0)] [(.int .i64 ((p : Nat) : Int)), (.int .i64 1), (.int .i32 65533), (.int .i64 12)] 62 (by kernel_rfl) (by kernel_rfl) rfl (by kernel_rfl) o_x5 (by simp) rfl ?_)))))))
            intro w50 hW51
            replace hb := hb.trans (hW51.below g_x5)
            replace hs := Nat.le_trans hs (Nat.le_of_eq hW51.size.symm)
            have n_o_x4 := obj_wrote o_x4 hW51 ne_x4_x5
            have n_r_b20 := r_b20.wrote hW51 (r_b20.ne o_x5 (by simp))
            replace o_x4 := n_o_x4; clear n_o_x4
            replace r_b20 := n_r_b20; clear n_r_b20
            replace o_x5 := hW51.here
            refine L_nil (thenQ_normal (W_seq (W_region (L_loadA b4 0 [(.int .i64 ((p : Nat) : Int)), (.int .i64 1), (.int .i32 65533), (.int .i64 12)] (by kernel_rfl) (by kernel_rfl) (by kernel_rfl) (cells_at o_x5 0 (by kernel_rfl)) (L_storeA b1 0 [(.int .i64 ((p : Nat) : Int)), (.int .i64 1), (.int .i32 65533), (.int .i64 12)] [(.int .i64 0), (.int .i64 0), (.int .i32 0), (.int .i64 0)] [(.int .i64 ((p : Nat) : Int)), (.int .i64 1), (.int .i32 65533), (.int .i64 12)] 62 (by kernel_rfl) (by kernel_rfl) rfl (by kernel_rfl) o_x4 (by kernel_rfl) rfl ?_)))))
            intro w52 hW53
            replace hb := hb.trans (hW53.below g_x4)
            replace hs := Nat.le_trans hs (Nat.le_of_eq hW53.size.symm)
            have n_o_x5 := obj_wrote o_x5 hW53 ne_x5_x4
            have n_r_b20 := r_b20.wrote hW53 (r_b20.ne o_x4 (by simp))
            replace o_x5 := n_o_x5; clear n_o_x5
            replace r_b20 := n_r_b20; clear n_r_b20
            replace o_x4 := hW53.here
            refine L_nil (thenQ_normal (W_ret (thenQ_ret (blkQ_ret (thenQ_ret (thenQ_ret (blkQ_ret (thenQ_ret ?_))))))))
            refine end_ret [.cell 4 62] [(Value.agg #[(.int .i64 ((p : Nat) : Int)), (.int .i64 1), (.int .i32 65533), (.int .i64 12)])] rfl hds ⟨⟨⟨b1, 0, none⟩, by kernel_rfl, load_agg [(.int .i64 ((p : Nat) : Int)), (.int .i64 1), (.int .i32 65533), (.int .i64 12)] (by kernel_rfl) (by kernel_rfl) (cells_obj o_x4)⟩, trivial⟩ ?_
            have e0 : (Value.agg #[(.int .i64 ((p : Nat) : Int)), (.int .i64 1), (.int .i32 65533), (.int .i64 12)]) = (Value.agg #[(.int .i64 ((p : Nat) : Int)), (.int .i64 (((atF s p).1 : Nat) : Int)), (.int .i32 ((atF s p).2.1)), (.int .i64 ((atF s p).2.2))]) := by first | (exfalso; omega) | (rw [at_lead hc10 (by assumption)]; try rfl; done) | (rw [← i3, atH_eq hc10, at_cut (by assumption) (by assumption)]; try rfl; done) | (rw [← i3, atH_eq hc10, at_tail (by assumption) (by assumption) (by omega)]; try rfl; done) | (rw [← i3, atH_eq hc10, at_over (by assumption) (by assumption) (by assumption)]; try rfl; done) | (rw [← i3, atH_eq hc10, at_half (by assumption) (by assumption) (by assumption) (by omega) (by omega)]; try rfl; done) | (rw [← i3, atH_eq hc10, at_past (by assumption) (by assumption) (by assumption) (by omega)]; try rfl; done) | (rw [← i3, atH_eq hc10, at_good (by assumption) (by assumption) (by assumption) (by omega) (by omega)]; try rfl; done)
            exact ⟨e0, hb⟩
          · intro h54
            replace h54 : c41.toNat ≤ 191 := by omega
            refine L_pickF (by kernel_rfl) (L_nil (thenQ_normal (W_false (by kernel_rfl) (W_skip (thenQ_normal (W_region (L_mv (L_mulN x 64 (by omega) (by kernel_rfl) (by kernel_rfl) (L_mv (L_addN (x * 64) c41.toNat (by omega) (by kernel_rfl) (by kernel_rfl) (L_subN ((x * 64) + c41.toNat) 128 (by omega) (by omega) (by kernel_rfl) (by kernel_rfl) (L_as (L_nil (blkQ_normal (thenQ_normal (W_region (L_mv (L_addN i 1 (by omega) (by kernel_rfl) (by kernel_rfl) (L_as (L_nil ?_))))))))))))))))))))
            refine thenQ_normal ⟨_, ?_, (i + 1), (((x * 64) + c41.toNat) - 128), rfl, hds, by kernel_rfl, by kernel_rfl, by kernel_rfl, by kernel_rfl, by kernel_rfl, by kernel_rfl, by kernel_rfl, r_b20, o_x4, o_x5, hb, hs, ?_, ?_, ?_, ?_⟩
            · omega
            · omega
            · omega
            · omega
            · rw [← i3, atH_eq hc10, atH_eq hc10]; exact (at_step (by assumption) (by assumption) (by omega) (by omega)).symm
    · intro h55
      replace h55 : longN ((c9.toNat : Nat) : Int) ≤ i := by omega
      refine L_nil (thenQ_normal (W_false (by kernel_rfl) (W_exit (thenQ_exit (thenQ_exit (blkQ_exit (thenQ_normal (W_seq (W_region (L_new (fun b => .slice (some ⟨b, 0, none⟩) 5 5) (.cells [(.int .i64 0), (.int .i64 0), (.int .i64 128), (.int .i64 2048), (.int .i64 65536)].toArray 3 (0, 0)) (by kernel_rfl) (by kernel_rfl) ?_))))))))))
      intro b56 w57 hN58
      have g_b56 : w.heap.size ≤ b56 := by rw [hN58.num]; exact hs
      replace hb := hb.trans (hN58.below.mono hs)
      replace hs := Nat.le_trans hs (hN58.below.size)
      replace o_x4 := obj_below o_x4 hN58.below
      replace o_x5 := obj_below o_x5 hN58.below
      replace r_b20 := r_b20.below hN58.below
      have r_b56 : Row w57 w.heap.size 3 1 encNat (.slice (some ⟨b56, 0, none⟩) 5 5) leastT := Row.made leastT hN58 g_b56 rfl rfl (by first | decide | (simp; done))
      refine L_as (L_nil (thenQ_normal (W_seq (W_seq (W_region (L_mv (L_mv (L_mv ?_))))))))
      obtain ⟨x59, hx60⟩ := get_some leastT (longN ((c9.toNat : Nat) : Int)) (by omega)
      have hz := (r_b56.rd).at (k := 1) (fun _ => rfl) hx60
      obtain ⟨g61, off62, hl63, hc64⟩ := hz
      refine L_ixaddr (k := .i64) (.slice (some ⟨b56, 0, none⟩) 5 5) (longN ((c9.toNat : Nat) : Int)) _ g61 off62 el83 hl63 (by omega) (by kernel_rfl) (by kernel_rfl) (L_load g61 (off62 + (longN ((c9.toNat : Nat) : Int)) * 1) (.int .i64 ((x59 : Nat) : Int)) (by kernel_rfl) (by kernel_rfl) (hc64 0 _ rfl) (L_cmp .i64 ((x : Nat) : Int) ((x59 : Nat) : Int) (x < x59) rfl (cmpN_lt x x59) (by kernel_rfl) (by kernel_rfl) ?_ ?_))
      · intro h65
        replace h65 : x < x59 := by omega
        refine L_nil (thenQ_normal (W_true (by kernel_rfl) (W_seq (W_region (L_run (.pointer (some ⟨b4, 3, none⟩)) (by kernel_rfl) (by kernel_rfl) (L_store b4 3 (.int .i64 13) [(.int .i64 ((p : Nat) : Int)), (.int .i64 1), (.int .i32 65533), (.int .i64 0)] [(.int .i64 ((p : Nat) : Int)), (.int .i64 1), (.int .i32 65533), (.int .i64 13)] 62 (by kernel_rfl) (by kernel_rfl) rfl (by kernel_rfl) o_x5 (by simp) rfl ?_))))))
        intro w66 hW67
        replace hb := hb.trans (hW67.below g_x5)
        replace hs := Nat.le_trans hs (Nat.le_of_eq hW67.size.symm)
        have n_o_x4 := obj_wrote o_x4 hW67 ne_x4_x5
        have n_r_b20 := r_b20.wrote hW67 (r_b20.ne o_x5 (by simp))
        have n_r_b56 := r_b56.wrote hW67 (r_b56.ne o_x5 (by simp))
        replace o_x4 := n_o_x4; clear n_o_x4
        replace r_b20 := n_r_b20; clear n_r_b20
        replace r_b56 := n_r_b56; clear n_r_b56
        replace o_x5 := hW67.here
        refine L_nil (thenQ_normal (W_seq (W_region (L_loadA b4 0 [(.int .i64 ((p : Nat) : Int)), (.int .i64 1), (.int .i32 65533), (.int .i64 13)] (by kernel_rfl) (by kernel_rfl) (by kernel_rfl) (cells_at o_x5 0 (by kernel_rfl)) (L_storeA b1 0 [(.int .i64 ((p : Nat) : Int)), (.int .i64 1), (.int .i32 65533), (.int .i64 13)] [(.int .i64 0), (.int .i64 0), (.int .i32 0), (.int .i64 0)] [(.int .i64 ((p : Nat) : Int)), (.int .i64 1), (.int .i32 65533), (.int .i64 13)] 62 (by kernel_rfl) (by kernel_rfl) rfl (by kernel_rfl) o_x4 (by kernel_rfl) rfl ?_)))))
        intro w68 hW69
        replace hb := hb.trans (hW69.below g_x4)
        replace hs := Nat.le_trans hs (Nat.le_of_eq hW69.size.symm)
        have n_o_x5 := obj_wrote o_x5 hW69 ne_x5_x4
        have n_r_b20 := r_b20.wrote hW69 (r_b20.ne o_x4 (by simp))
        have n_r_b56 := r_b56.wrote hW69 (r_b56.ne o_x4 (by simp))
        replace o_x5 := n_o_x5; clear n_o_x5
        replace r_b20 := n_r_b20; clear n_r_b20
        replace r_b56 := n_r_b56; clear n_r_b56
        replace o_x4 := hW69.here
        refine L_nil (thenQ_normal (W_ret (thenQ_ret ?_)))
        refine end_ret [.cell 4 62] [(Value.agg #[(.int .i64 ((p : Nat) : Int)), (.int .i64 1), (.int .i32 65533), (.int .i64 13)])] rfl hds ⟨⟨⟨b1, 0, none⟩, by kernel_rfl, load_agg [(.int .i64 ((p : Nat) : Int)), (.int .i64 1), (.int .i32 65533), (.int .i64 13)] (by kernel_rfl) (by kernel_rfl) (cells_obj o_x4)⟩, trivial⟩ ?_
        have e0 : (Value.agg #[(.int .i64 ((p : Nat) : Int)), (.int .i64 1), (.int .i32 65533), (.int .i64 13)]) = (Value.agg #[(.int .i64 ((p : Nat) : Int)), (.int .i64 (((atF s p).1 : Nat) : Int)), (.int .i32 ((atF s p).2.1)), (.int .i64 ((atF s p).2.2))]) := by first | (exfalso; omega) | (rw [at_lead hc10 (by assumption)]; try rfl; done) | (rw [← i3, atH_eq hc10, at_cut (by assumption) (by assumption)]; try rfl; done) | (rw [← i3, atH_eq hc10, at_tail (by assumption) (by assumption) (by omega)]; try rfl; done) | (rw [← i3, atH_eq hc10, at_over (by assumption) (by assumption) (by assumption)]; try rfl; done) | (rw [← i3, atH_eq hc10, at_half (by assumption) (by assumption) (by assumption) (by omega) (by omega)]; try rfl; done) | (rw [← i3, atH_eq hc10, at_past (by assumption) (by assumption) (by assumption) (by omega)]; try rfl; done) | (rw [← i3, atH_eq hc10, at_good (by assumption) (by assumption) (by assumption) (by omega) (by omega)]; try rfl; done)
        exact ⟨e0, hb⟩
      · intro h70
        replace h70 : x59 ≤ x := by omega
        refine L_nil (thenQ_normal (W_false (by kernel_rfl) (W_skip (thenQ_normal (W_seq (W_seq (W_region (L_mv (L_cmp .i64 ((x : Nat) : Int) ((55296 : Nat) : Int) (55296 ≤ x) rfl (cmpN_ge x 55296) (by kernel_rfl) (by kernel_rfl) ?_ ?_)))))))))
        · intro h71
          replace h71 : 55296 ≤ x := by omega
          refine L_mv (L_want (by kernel_rfl) (L_mv (L_want (by kernel_rfl) (L_cmp .i64 ((x : Nat) : Int) ((57343 : Nat) : Int) (x ≤ 57343) rfl (cmpN_le x 57343) (by kernel_rfl) (by kernel_rfl) ?_ ?_))))
          · intro h72
            replace h72 : x ≤ 57343 := by omega
            refine L_pickT (by kernel_rfl) (L_nil (thenQ_normal (W_true (by kernel_rfl) (W_seq (W_region (L_run (.pointer (some ⟨b4, 3, none⟩)) (by kernel_rfl) (by kernel_rfl) (L_store b4 3 (.int .i64 14) [(.int .i64 ((p : Nat) : Int)), (.int .i64 1), (.int .i32 65533), (.int .i64 0)] [(.int .i64 ((p : Nat) : Int)), (.int .i64 1), (.int .i32 65533), (.int .i64 14)] 62 (by kernel_rfl) (by kernel_rfl) rfl (by kernel_rfl) o_x5 (by simp) rfl ?_)))))))
            intro w73 hW74
            replace hb := hb.trans (hW74.below g_x5)
            replace hs := Nat.le_trans hs (Nat.le_of_eq hW74.size.symm)
            have n_o_x4 := obj_wrote o_x4 hW74 ne_x4_x5
            have n_r_b20 := r_b20.wrote hW74 (r_b20.ne o_x5 (by simp))
            have n_r_b56 := r_b56.wrote hW74 (r_b56.ne o_x5 (by simp))
            replace o_x4 := n_o_x4; clear n_o_x4
            replace r_b20 := n_r_b20; clear n_r_b20
            replace r_b56 := n_r_b56; clear n_r_b56
            replace o_x5 := hW74.here
            refine L_nil (thenQ_normal (W_seq (W_region (L_loadA b4 0 [(.int .i64 ((p : Nat) : Int)), (.int .i64 1), (.int .i32 65533), (.int .i64 14)] (by kernel_rfl) (by kernel_rfl) (by kernel_rfl) (cells_at o_x5 0 (by kernel_rfl)) (L_storeA b1 0 [(.int .i64 ((p : Nat) : Int)), (.int .i64 1), (.int .i32 65533), (.int .i64 14)] [(.int .i64 0), (.int .i64 0), (.int .i32 0), (.int .i64 0)] [(.int .i64 ((p : Nat) : Int)), (.int .i64 1), (.int .i32 65533), (.int .i64 14)] 62 (by kernel_rfl) (by kernel_rfl) rfl (by kernel_rfl) o_x4 (by kernel_rfl) rfl ?_)))))
            intro w75 hW76
            replace hb := hb.trans (hW76.below g_x4)
            replace hs := Nat.le_trans hs (Nat.le_of_eq hW76.size.symm)
            have n_o_x5 := obj_wrote o_x5 hW76 ne_x5_x4
            have n_r_b20 := r_b20.wrote hW76 (r_b20.ne o_x4 (by simp))
            have n_r_b56 := r_b56.wrote hW76 (r_b56.ne o_x4 (by simp))
            replace o_x5 := n_o_x5; clear n_o_x5
            replace r_b20 := n_r_b20; clear n_r_b20
            replace r_b56 := n_r_b56; clear n_r_b56
            replace o_x4 := hW76.here
            refine L_nil (thenQ_normal (W_ret (thenQ_ret ?_)))
            refine end_ret [.cell 4 62] [(Value.agg #[(.int .i64 ((p : Nat) : Int)), (.int .i64 1), (.int .i32 65533), (.int .i64 14)])] rfl hds ⟨⟨⟨b1, 0, none⟩, by kernel_rfl, load_agg [(.int .i64 ((p : Nat) : Int)), (.int .i64 1), (.int .i32 65533), (.int .i64 14)] (by kernel_rfl) (by kernel_rfl) (cells_obj o_x4)⟩, trivial⟩ ?_
            have e0 : (Value.agg #[(.int .i64 ((p : Nat) : Int)), (.int .i64 1), (.int .i32 65533), (.int .i64 14)]) = (Value.agg #[(.int .i64 ((p : Nat) : Int)), (.int .i64 (((atF s p).1 : Nat) : Int)), (.int .i32 ((atF s p).2.1)), (.int .i64 ((atF s p).2.2))]) := by first | (exfalso; omega) | (rw [at_lead hc10 (by assumption)]; try rfl; done) | (rw [← i3, atH_eq hc10, at_cut (by assumption) (by assumption)]; try rfl; done) | (rw [← i3, atH_eq hc10, at_tail (by assumption) (by assumption) (by omega)]; try rfl; done) | (rw [← i3, atH_eq hc10, at_over (by assumption) (by assumption) (by assumption)]; try rfl; done) | (rw [← i3, atH_eq hc10, at_half (by assumption) (by assumption) (by assumption) (by omega) (by omega)]; try rfl; done) | (rw [← i3, atH_eq hc10, at_past (by assumption) (by assumption) (by assumption) (by omega)]; try rfl; done) | (rw [← i3, atH_eq hc10, at_good (by assumption) (by assumption) (by assumption) (by omega) (by omega)]; try rfl; done)
            exact ⟨e0, hb⟩
          · intro h77
            replace h77 : 57343 < x := by omega
            refine L_pickT (by kernel_rfl) (L_nil (thenQ_normal (W_false (by kernel_rfl) (W_skip (thenQ_normal (W_seq (W_seq (W_region (L_mv (L_cmp .i64 ((x : Nat) : Int) ((1114111 : Nat) : Int) (1114111 < x) rfl (cmpN_gt x 1114111) (by kernel_rfl) (by kernel_rfl) ?_ ?_))))))))))
            · intro h78
              replace h78 : 1114111 < x := by omega
              refine L_nil (thenQ_normal (W_true (by kernel_rfl) (W_seq (W_region (L_run (.pointer (some ⟨b4, 3, none⟩)) (by kernel_rfl) (by kernel_rfl) (L_store b4 3 (.int .i64 15) [(.int .i64 ((p : Nat) : Int)), (.int .i64 1), (.int .i32 65533), (.int .i64 0)] [(.int .i64 ((p : Nat) : Int)), (.int .i64 1), (.int .i32 65533), (.int .i64 15)] 62 (by kernel_rfl) (by kernel_rfl) rfl (by kernel_rfl) o_x5 (by simp) rfl ?_))))))
              intro w79 hW80
              replace hb := hb.trans (hW80.below g_x5)
              replace hs := Nat.le_trans hs (Nat.le_of_eq hW80.size.symm)
              have n_o_x4 := obj_wrote o_x4 hW80 ne_x4_x5
              have n_r_b20 := r_b20.wrote hW80 (r_b20.ne o_x5 (by simp))
              have n_r_b56 := r_b56.wrote hW80 (r_b56.ne o_x5 (by simp))
              replace o_x4 := n_o_x4; clear n_o_x4
              replace r_b20 := n_r_b20; clear n_r_b20
              replace r_b56 := n_r_b56; clear n_r_b56
              replace o_x5 := hW80.here
              refine L_nil (thenQ_normal (W_seq (W_region (L_loadA b4 0 [(.int .i64 ((p : Nat) : Int)), (.int .i64 1), (.int .i32 65533), (.int .i64 15)] (by kernel_rfl) (by kernel_rfl) (by kernel_rfl) (cells_at o_x5 0 (by kernel_rfl)) (L_storeA b1 0 [(.int .i64 ((p : Nat) : Int)), (.int .i64 1), (.int .i32 65533), (.int .i64 15)] [(.int .i64 0), (.int .i64 0), (.int .i32 0), (.int .i64 0)] [(.int .i64 ((p : Nat) : Int)), (.int .i64 1), (.int .i32 65533), (.int .i64 15)] 62 (by kernel_rfl) (by kernel_rfl) rfl (by kernel_rfl) o_x4 (by kernel_rfl) rfl ?_)))))
              intro w81 hW82
              replace hb := hb.trans (hW82.below g_x4)
              replace hs := Nat.le_trans hs (Nat.le_of_eq hW82.size.symm)
              have n_o_x5 := obj_wrote o_x5 hW82 ne_x5_x4
              have n_r_b20 := r_b20.wrote hW82 (r_b20.ne o_x4 (by simp))
              have n_r_b56 := r_b56.wrote hW82 (r_b56.ne o_x4 (by simp))
              replace o_x5 := n_o_x5; clear n_o_x5
              replace r_b20 := n_r_b20; clear n_r_b20
              replace r_b56 := n_r_b56; clear n_r_b56
              replace o_x4 := hW82.here
              refine L_nil (thenQ_normal (W_ret (thenQ_ret ?_)))
              refine end_ret [.cell 4 62] [(Value.agg #[(.int .i64 ((p : Nat) : Int)), (.int .i64 1), (.int .i32 65533), (.int .i64 15)])] rfl hds ⟨⟨⟨b1, 0, none⟩, by kernel_rfl, load_agg [(.int .i64 ((p : Nat) : Int)), (.int .i64 1), (.int .i32 65533), (.int .i64 15)] (by kernel_rfl) (by kernel_rfl) (cells_obj o_x4)⟩, trivial⟩ ?_
              have e0 : (Value.agg #[(.int .i64 ((p : Nat) : Int)), (.int .i64 1), (.int .i32 65533), (.int .i64 15)]) = (Value.agg #[(.int .i64 ((p : Nat) : Int)), (.int .i64 (((atF s p).1 : Nat) : Int)), (.int .i32 ((atF s p).2.1)), (.int .i64 ((atF s p).2.2))]) := by first | (exfalso; omega) | (rw [at_lead hc10 (by assumption)]; try rfl; done) | (rw [← i3, atH_eq hc10, at_cut (by assumption) (by assumption)]; try rfl; done) | (rw [← i3, atH_eq hc10, at_tail (by assumption) (by assumption) (by omega)]; try rfl; done) | (rw [← i3, atH_eq hc10, at_over (by assumption) (by assumption) (by assumption)]; try rfl; done) | (rw [← i3, atH_eq hc10, at_half (by assumption) (by assumption) (by assumption) (by omega) (by omega)]; try rfl; done) | (rw [← i3, atH_eq hc10, at_past (by assumption) (by assumption) (by assumption) (by omega)]; try rfl; done) | (rw [← i3, atH_eq hc10, at_good (by assumption) (by assumption) (by assumption) (by omega) (by omega)]; try rfl; done)
              exact ⟨e0, hb⟩
            · intro h83
              replace h83 : x ≤ 1114111 := by omega
              refine L_nil (thenQ_normal (W_false (by kernel_rfl) (W_skip (thenQ_normal (W_seq (W_region (L_mv (L_mv (L_mv (L_conv (k := .i64) ((x : Nat) : Int) ((x : Nat) : Int) (by kernel_rfl) Try.underlying21 (by kernel_rfl) (wrap_i32 _ (by omega) (by omega)) (L_run (Value.agg #[(.int .i64 ((p : Nat) : Int)), (.int .i64 ((longN ((c9.toNat : Nat) : Int) : Nat) : Int)), (.int .i32 ((x : Nat) : Int)), (.int .i64 0)]) (by kernel_rfl) (by kernel_rfl) (L_storeA b1 0 [(.int .i64 ((p : Nat) : Int)), (.int .i64 ((longN ((c9.toNat : Nat) : Int) : Nat) : Int)), (.int .i32 ((x : Nat) : Int)), (.int .i64 0)] [(.int .i64 0), (.int .i64 0), (.int .i32 0), (.int .i64 0)] [(.int .i64 ((p : Nat) : Int)), (.int .i64 ((longN ((c9.toNat : Nat) : Int) : Nat) : Int)), (.int .i32 ((x : Nat) : Int)), (.int .i64 0)] 62 (by kernel_rfl) (by kernel_rfl) rfl (by kernel_rfl) o_x4 (by kernel_rfl) rfl ?_))))))))))))
              intro w84 hW85
              replace hb := hb.trans (hW85.below g_x4)
              replace hs := Nat.le_trans hs (Nat.le_of_eq hW85.size.symm)
              have n_o_x5 := obj_wrote o_x5 hW85 ne_x5_x4
              have n_r_b20 := r_b20.wrote hW85 (r_b20.ne o_x4 (by simp))
              have n_r_b56 := r_b56.wrote hW85 (r_b56.ne o_x4 (by simp))
              replace o_x5 := n_o_x5; clear n_o_x5
              replace r_b20 := n_r_b20; clear n_r_b20
              replace r_b56 := n_r_b56; clear n_r_b56
              replace o_x4 := hW85.here
              refine L_nil (thenQ_normal (W_ret ?_))
              refine end_ret [.cell 4 62] [(Value.agg #[(.int .i64 ((p : Nat) : Int)), (.int .i64 ((longN ((c9.toNat : Nat) : Int) : Nat) : Int)), (.int .i32 ((x : Nat) : Int)), (.int .i64 0)])] rfl hds ⟨⟨⟨b1, 0, none⟩, by kernel_rfl, load_agg [(.int .i64 ((p : Nat) : Int)), (.int .i64 ((longN ((c9.toNat : Nat) : Int) : Nat) : Int)), (.int .i32 ((x : Nat) : Int)), (.int .i64 0)] (by kernel_rfl) (by kernel_rfl) (cells_obj o_x4)⟩, trivial⟩ ?_
              have e0 : (Value.agg #[(.int .i64 ((p : Nat) : Int)), (.int .i64 ((longN ((c9.toNat : Nat) : Int) : Nat) : Int)), (.int .i32 ((x : Nat) : Int)), (.int .i64 0)]) = (Value.agg #[(.int .i64 ((p : Nat) : Int)), (.int .i64 (((atF s p).1 : Nat) : Int)), (.int .i32 ((atF s p).2.1)), (.int .i64 ((atF s p).2.2))]) := by first | (exfalso; omega) | (rw [at_lead hc10 (by assumption)]; try rfl; done) | (rw [← i3, atH_eq hc10, at_cut (by assumption) (by assumption)]; try rfl; done) | (rw [← i3, atH_eq hc10, at_tail (by assumption) (by assumption) (by omega)]; try rfl; done) | (rw [← i3, atH_eq hc10, at_over (by assumption) (by assumption) (by assumption)]; try rfl; done) | (rw [← i3, atH_eq hc10, at_half (by assumption) (by assumption) (by assumption) (by omega) (by omega)]; try rfl; done) | (rw [← i3, atH_eq hc10, at_past (by assumption) (by assumption) (by assumption) (by omega)]; try rfl; done) | (rw [← i3, atH_eq hc10, at_good (by assumption) (by assumption) (by assumption) (by omega) (by omega)]; try rfl; done)
              exact ⟨e0, hb⟩
        · intro h86
          replace h86 : x < 55296 := by omega
          refine L_mv (L_skip (by kernel_rfl) (L_skip (by kernel_rfl) (L_pickF (by kernel_rfl) (L_nil (thenQ_normal (W_false (by kernel_rfl) (W_skip (thenQ_normal (W_seq (W_seq (W_region (L_mv (L_cmp .i64 ((x : Nat) : Int) ((1114111 : Nat) : Int) (1114111 < x) rfl (cmpN_gt x 1114111) (by kernel_rfl) (by kernel_rfl) ?_ ?_)))))))))))))
          · intro h87
            replace h87 : 1114111 < x := by omega
            refine L_nil (thenQ_normal (W_true (by kernel_rfl) (W_seq (W_region (L_run (.pointer (some ⟨b4, 3, none⟩)) (by kernel_rfl) (by kernel_rfl) (L_store b4 3 (.int .i64 15) [(.int .i64 ((p : Nat) : Int)), (.int .i64 1), (.int .i32 65533), (.int .i64 0)] [(.int .i64 ((p : Nat) : Int)), (.int .i64 1), (.int .i32 65533), (.int .i64 15)] 62 (by kernel_rfl) (by kernel_rfl) rfl (by kernel_rfl) o_x5 (by simp) rfl ?_))))))
            intro w88 hW89
            replace hb := hb.trans (hW89.below g_x5)
            replace hs := Nat.le_trans hs (Nat.le_of_eq hW89.size.symm)
            have n_o_x4 := obj_wrote o_x4 hW89 ne_x4_x5
            have n_r_b20 := r_b20.wrote hW89 (r_b20.ne o_x5 (by simp))
            have n_r_b56 := r_b56.wrote hW89 (r_b56.ne o_x5 (by simp))
            replace o_x4 := n_o_x4; clear n_o_x4
            replace r_b20 := n_r_b20; clear n_r_b20
            replace r_b56 := n_r_b56; clear n_r_b56
            replace o_x5 := hW89.here
            refine L_nil (thenQ_normal (W_seq (W_region (L_loadA b4 0 [(.int .i64 ((p : Nat) : Int)), (.int .i64 1), (.int .i32 65533), (.int .i64 15)] (by kernel_rfl) (by kernel_rfl) (by kernel_rfl) (cells_at o_x5 0 (by kernel_rfl)) (L_storeA b1 0 [(.int .i64 ((p : Nat) : Int)), (.int .i64 1), (.int .i32 65533), (.int .i64 15)] [(.int .i64 0), (.int .i64 0), (.int .i32 0), (.int .i64 0)] [(.int .i64 ((p : Nat) : Int)), (.int .i64 1), (.int .i32 65533), (.int .i64 15)] 62 (by kernel_rfl) (by kernel_rfl) rfl (by kernel_rfl) o_x4 (by kernel_rfl) rfl ?_)))))
            intro w90 hW91
            replace hb := hb.trans (hW91.below g_x4)
            replace hs := Nat.le_trans hs (Nat.le_of_eq hW91.size.symm)
            have n_o_x5 := obj_wrote o_x5 hW91 ne_x5_x4
            have n_r_b20 := r_b20.wrote hW91 (r_b20.ne o_x4 (by simp))
            have n_r_b56 := r_b56.wrote hW91 (r_b56.ne o_x4 (by simp))
            replace o_x5 := n_o_x5; clear n_o_x5
            replace r_b20 := n_r_b20; clear n_r_b20
            replace r_b56 := n_r_b56; clear n_r_b56
            replace o_x4 := hW91.here
            refine L_nil (thenQ_normal (W_ret (thenQ_ret ?_)))
            refine end_ret [.cell 4 62] [(Value.agg #[(.int .i64 ((p : Nat) : Int)), (.int .i64 1), (.int .i32 65533), (.int .i64 15)])] rfl hds ⟨⟨⟨b1, 0, none⟩, by kernel_rfl, load_agg [(.int .i64 ((p : Nat) : Int)), (.int .i64 1), (.int .i32 65533), (.int .i64 15)] (by kernel_rfl) (by kernel_rfl) (cells_obj o_x4)⟩, trivial⟩ ?_
            have e0 : (Value.agg #[(.int .i64 ((p : Nat) : Int)), (.int .i64 1), (.int .i32 65533), (.int .i64 15)]) = (Value.agg #[(.int .i64 ((p : Nat) : Int)), (.int .i64 (((atF s p).1 : Nat) : Int)), (.int .i32 ((atF s p).2.1)), (.int .i64 ((atF s p).2.2))]) := by first | (exfalso; omega) | (rw [at_lead hc10 (by assumption)]; try rfl; done) | (rw [← i3, atH_eq hc10, at_cut (by assumption) (by assumption)]; try rfl; done) | (rw [← i3, atH_eq hc10, at_tail (by assumption) (by assumption) (by omega)]; try rfl; done) | (rw [← i3, atH_eq hc10, at_over (by assumption) (by assumption) (by assumption)]; try rfl; done) | (rw [← i3, atH_eq hc10, at_half (by assumption) (by assumption) (by assumption) (by omega) (by omega)]; try rfl; done) | (rw [← i3, atH_eq hc10, at_past (by assumption) (by assumption) (by assumption) (by omega)]; try rfl; done) | (rw [← i3, atH_eq hc10, at_good (by assumption) (by assumption) (by assumption) (by omega) (by omega)]; try rfl; done)
            exact ⟨e0, hb⟩
          · intro h92
            replace h92 : x ≤ 1114111 := by omega
            refine L_nil (thenQ_normal (W_false (by kernel_rfl) (W_skip (thenQ_normal (W_seq (W_region (L_mv (L_mv (L_mv (L_conv (k := .i64) ((x : Nat) : Int) ((x : Nat) : Int) (by kernel_rfl) Try.underlying21 (by kernel_rfl) (wrap_i32 _ (by omega) (by omega)) (L_run (Value.agg #[(.int .i64 ((p : Nat) : Int)), (.int .i64 ((longN ((c9.toNat : Nat) : Int) : Nat) : Int)), (.int .i32 ((x : Nat) : Int)), (.int .i64 0)]) (by kernel_rfl) (by kernel_rfl) (L_storeA b1 0 [(.int .i64 ((p : Nat) : Int)), (.int .i64 ((longN ((c9.toNat : Nat) : Int) : Nat) : Int)), (.int .i32 ((x : Nat) : Int)), (.int .i64 0)] [(.int .i64 0), (.int .i64 0), (.int .i32 0), (.int .i64 0)] [(.int .i64 ((p : Nat) : Int)), (.int .i64 ((longN ((c9.toNat : Nat) : Int) : Nat) : Int)), (.int .i32 ((x : Nat) : Int)), (.int .i64 0)] 62 (by kernel_rfl) (by kernel_rfl) rfl (by kernel_rfl) o_x4 (by kernel_rfl) rfl ?_))))))))))))
            intro w93 hW94
            replace hb := hb.trans (hW94.below g_x4)
            replace hs := Nat.le_trans hs (Nat.le_of_eq hW94.size.symm)
            have n_o_x5 := obj_wrote o_x5 hW94 ne_x5_x4
            have n_r_b20 := r_b20.wrote hW94 (r_b20.ne o_x4 (by simp))
            have n_r_b56 := r_b56.wrote hW94 (r_b56.ne o_x4 (by simp))
            replace o_x5 := n_o_x5; clear n_o_x5
            replace r_b20 := n_r_b20; clear n_r_b20
            replace r_b56 := n_r_b56; clear n_r_b56
            replace o_x4 := hW94.here
            refine L_nil (thenQ_normal (W_ret ?_))
            refine end_ret [.cell 4 62] [(Value.agg #[(.int .i64 ((p : Nat) : Int)), (.int .i64 ((longN ((c9.toNat : Nat) : Int) : Nat) : Int)), (.int .i32 ((x : Nat) : Int)), (.int .i64 0)])] rfl hds ⟨⟨⟨b1, 0, none⟩, by kernel_rfl, load_agg [(.int .i64 ((p : Nat) : Int)), (.int .i64 ((longN ((c9.toNat : Nat) : Int) : Nat) : Int)), (.int .i32 ((x : Nat) : Int)), (.int .i64 0)] (by kernel_rfl) (by kernel_rfl) (cells_obj o_x4)⟩, trivial⟩ ?_
            have e0 : (Value.agg #[(.int .i64 ((p : Nat) : Int)), (.int .i64 ((longN ((c9.toNat : Nat) : Int) : Nat) : Int)), (.int .i32 ((x : Nat) : Int)), (.int .i64 0)]) = (Value.agg #[(.int .i64 ((p : Nat) : Int)), (.int .i64 (((atF s p).1 : Nat) : Int)), (.int .i32 ((atF s p).2.1)), (.int .i64 ((atF s p).2.2))]) := by first | (exfalso; omega) | (rw [at_lead hc10 (by assumption)]; try rfl; done) | (rw [← i3, atH_eq hc10, at_cut (by assumption) (by assumption)]; try rfl; done) | (rw [← i3, atH_eq hc10, at_tail (by assumption) (by assumption) (by omega)]; try rfl; done) | (rw [← i3, atH_eq hc10, at_over (by assumption) (by assumption) (by assumption)]; try rfl; done) | (rw [← i3, atH_eq hc10, at_half (by assumption) (by assumption) (by assumption) (by omega) (by omega)]; try rfl; done) | (rw [← i3, atH_eq hc10, at_past (by assumption) (by assumption) (by assumption) (by omega)]; try rfl; done) | (rw [← i3, atH_eq hc10, at_good (by assumption) (by assumption) (by assumption) (by omega) (by omega)]; try rfl; done)
            exact ⟨e0, hb⟩

set_option maxHeartbeats 4000000 in
set_option maxRecDepth 100000 in
theorem c_furrowref01_Spots (s : List UInt8) (w : World) (hs : s.length ≤ 1073741824) :
    Calls Try.prog 39 #[(S s)] w (Ret fun v w' => ∃ (q0 : Value), v = q0 ∧ Row w' w.heap.size 62 4 encSpot q0 (spotsFrom s 0) ∧ Below w.heap.size w w') := by
  refine enter (args := [(S s)]) Try.func39 rfl (by kernel_rfl : _ = 22) (by kernel_rfl) ?_
  have hb := Below.refl w.heap.size w
  have hs : w.heap.size ≤ w.heap.size := Nat.le_refl _
  refine W_seq (W_region (L_as (L_nil (thenQ_normal (W_seq (W_region (L_as (L_nil (thenQ_normal (W_seq (W_seq (W_region (L_as (L_nil (thenQ_normal (W_block ?_))))))))))))))))
  refine W_loop (fun m s0 w0 => ∃ (p : Nat) (acc : List (Nat × Nat × Int × Int)) (v_3 : Value), (m = s.length - p) ∧ (s0.ds = []) ∧ (s0.f 0 = (S s)) ∧ (s0.f 2 = (.slice none 0 0)) ∧ (s0.f 3 = v_3) ∧ (s0.f 4 = (.int .i64 ((p : Nat) : Int))) ∧ (Row w0 w.heap.size 62 4 encSpot v_3 acc) ∧ (Below w.heap.size w w0) ∧ (w.heap.size ≤ w0.heap.size) ∧ (p ≤ s.length + 4) ∧ (acc.length ≤ p) ∧ (acc ++ spotsFrom s p = spotsFrom s 0)) _ ⟨0, [], (.slice none 0 0), rfl, by kernel_rfl, by kernel_rfl, by kernel_rfl, by kernel_rfl, by kernel_rfl, Row.nil _ _ _ _ _, hb, hs, by omega, Nat.le_refl _, by simp⟩ ?_
  rintro m1 s2 w3 ⟨p, acc, v_3, hm, hds, f_0, f_2, f_3, f_4, r_3, hb, hs, i1, i2, i3⟩
  refine W_set 0 _ f_0 (W_set 2 _ f_2 (W_set 3 _ f_3 (W_set 4 _ f_4 ?_)))
  clear f_0 f_2 f_3 f_4
  refine W_seq (W_seq (W_region (L_mv (L_mv (L_slen 9 s rfl Try.underlying9 (by kernel_rfl) (L_cmp .i64 ((p : Nat) : Int) (((s).length : Nat) : Int) (p < (s).length) rfl (cmpN_lt p ((s).length)) (by kernel_rfl) (by kernel_rfl) ?_ ?_))))))
  · intro h4
    replace h4 : p < (s).length := by omega
    refine L_nil (thenQ_normal (W_true (by kernel_rfl) (W_skip (thenQ_normal (W_block (W_seq (W_region (L_mv (L_mv (L_call 46 [(S s), (.int .i64 ((p : Nat) : Int))] (by kernel_rfl) (by kernel_rfl) (c_furrowref01_At s p _ (by omega) (by omega)) ?_))))))))))
    rintro _ w5 ⟨rfl, hB6⟩
    replace hb := hb.trans (hB6.mono hs)
    replace hs := Nat.le_trans hs (hB6.size)
    replace r_3 := r_3.below hB6
    have := atF_w s p
    refine L_new (fun b => .pointer (some ⟨b, 0, none⟩)) (.cells [(.int .i64 0), (.int .i64 0), (.int .i32 0), (.int .i64 0)].toArray 62 (0, 0)) (by kernel_rfl) (by kernel_rfl) ?_
    intro b8 w9 hN10
    have g_x5 : w.heap.size ≤ b8 := by rw [hN10.num]; exact hs
    have nb_o_x5_r_3 := r_3.new_ne hN10
    replace hb := hb.trans (hN10.below.mono hs)
    replace hs := Nat.le_trans hs (hN10.below.size)
    replace r_3 := r_3.below hN10.below
    have o_x5 := hN10.here
    refine L_storeA b8 0 [(.int .i64 ((p : Nat) : Int)), (.int .i64 (((atF s p).1 : Nat) : Int)), (.int .i32 ((atF s p).2.1)), (.int .i64 ((atF s p).2.2))] [(.int .i64 0), (.int .i64 0), (.int .i32 0), (.int .i64 0)] [(.int .i64 ((p : Nat) : Int)), (.int .i64 (((atF s p).1 : Nat) : Int)), (.int .i32 ((atF s p).2.1)), (.int .i64 ((atF s p).2.2))] 62 (by kernel_rfl) (by kernel_rfl) rfl (by kernel_rfl) o_x5 (by kernel_rfl) rfl ?_
    intro w11 hW12
    replace hb := hb.trans (hW12.below g_x5)
    replace hs := Nat.le_trans hs (Nat.le_of_eq hW12.size.symm)
    have n_r_3 := r_3.wrote hW12 nb_o_x5_r_3
    replace r_3 := n_r_3; clear n_r_3
    replace o_x5 := hW12.here
    refine L_nil (thenQ_normal (W_seq (W_region (L_mv (L_loadA b8 0 [(.int .i64 ((p : Nat) : Int)), (.int .i64 (((atF s p).1 : Nat) : Int)), (.int .i32 ((atF s p).2.1)), (.int .i64 ((atF s p).2.2))] (by kernel_rfl) (by kernel_rfl) (by kernel_rfl) (cells_at o_x5 0 (by kernel_rfl)) (L_app el59 w.heap.size v_3 acc (p, (atF s p).1, (atF s p).2.1, (atF s p).2.2) hs r_3 (by omega) (by kernel_rfl) rfl rfl (by kernel_rfl) rfl (by kernel_rfl) (by kernel_rfl) ?_))))))
    intro v13 w14 hr15 hg16 how17
    have nc_o_x5 := ownb_app how17 nb_o_x5_r_3 (obj_lt o_x5)
    replace hb := hb.grown hg16 hs (fun k hk => (World.ownsRow.lt r_3 k hk).1)
    replace hs := Nat.le_trans hs (hg16.size)
    have n_o_x5 := obj_grown o_x5 hg16 nb_o_x5_r_3
    replace o_x5 := n_o_x5; clear n_o_x5
    have nb_o_x5_r_3 := nc_o_x5
    replace r_3 := hr15
    refine L_as (L_nil (thenQ_normal (W_region (L_mv (L_run (.pointer (some ⟨b8, 1, none⟩)) (by kernel_rfl) (by kernel_rfl) (L_load b8 1 (.int .i64 (((atF s p).1 : Nat) : Int)) (by kernel_rfl) (by kernel_rfl) (cell_obj o_x5 rfl) (L_addN p ((atF s p).1) (by omega) (by kernel_rfl) (by kernel_rfl) (L_as (L_nil (blkQ_normal ?_))))))))))
    refine thenQ_normal ⟨_, ?_, (p + (atF s p).1), (acc ++ [(p, (atF s p).1, (atF s p).2.1, (atF s p).2.2)]), v13, rfl, hds, by kernel_rfl, by kernel_rfl, by kernel_rfl, by kernel_rfl, r_3, hb, hs, ?_, ?_, ?_⟩
    · omega
    · omega
    · (try simp only [List.length_append, List.length_cons, List.length_nil]); omega
    · rw [← i3, spotsFrom_step (p := p) (by assumption)]; simp
  · intro h18
    replace h18 : (s).length ≤ p := by omega
    refine L_nil (thenQ_normal (W_false (by kernel_rfl) (W_exit (thenQ_exit (thenQ_exit (blkQ_exit (thenQ_normal (W_seq (W_region (L_mv (L_as (L_nil (thenQ_normal (W_ret ?_))))))))))))))
    refine end_ret [.tmp 2] [v_3] rfl hds ⟨by kernel_rfl, trivial⟩ ?_
    have e0 : acc = spotsFrom s 0 := by rw [← i3, spotsFrom_end (by omega)]; simp
    exact ⟨v_3, rfl, r_3.cast e0, hb⟩

set_option maxHeartbeats 4000000 in
set_option maxRecDepth 100000 in
theorem c_furrowref01_Runes (s : List UInt8) (w : World) (hs : s.length ≤ 1073741824) :
    Calls Try.prog 42 #[(S s)] w (Ret fun v w' => ∃ (q0 : Value), v = q0 ∧ Row w' w.heap.size 21 1 encI32 q0 (runesFrom s 0) ∧ Below w.heap.size w w') := by
  refine enter (args := [(S s)]) Try.func42 rfl (by kernel_rfl : _ = 23) (by kernel_rfl) ?_
  have hb := Below.refl w.heap.size w
  have hs : w.heap.size ≤ w.heap.size := Nat.le_refl _
  refine W_seq (W_region (L_as (L_nil (thenQ_normal (W_seq (W_region (L_mv (L_call 39 [(S s)] (by kernel_rfl) (by kernel_rfl) (c_furrowref01_Spots s _ (by omega)) ?_))))))))
  rintro q1 w2 ⟨_, rfl, r_q1, hB3⟩
  replace r_q1 := r_q1.base hs
  replace hb := hb.trans (hB3.mono hs)
  replace hs := Nat.le_trans hs (hB3.size)
  refine L_as (L_nil (thenQ_normal (W_seq (W_region (L_as (L_nil (thenQ_normal (W_seq (W_seq (W_region (L_as (L_nil (thenQ_normal (W_block ?_))))))))))))))
  refine W_loop (fun m s0 w0 => ∃ (i : Nat) (acc : List Int) (v_4 : Value), (m = (spotsFrom s 0).length - i) ∧ (s0.ds = []) ∧ (s0.f 2 = (.slice none 0 0)) ∧ (s0.f 3 = q1) ∧ (s0.f 4 = v_4) ∧ (s0.f 5 = (.int .i64 ((i : Nat) : Int))) ∧ (Row w0 w.heap.size 62 4 encSpot q1 (spotsFrom s 0)) ∧ (Row w0 w.heap.size 21 1 encI32 v_4 acc) ∧ (Below w.heap.size w w0) ∧ (w.heap.size ≤ w0.heap.size) ∧ (i ≤ (spotsFrom s 0).length) ∧ (acc.length = i) ∧ (acc = ((spotsFrom s 0).take i).map (fun x => x.2.2.1))) _ ⟨0, [], (.slice none 0 0), rfl, by kernel_rfl, by kernel_rfl, by kernel_rfl, by kernel_rfl, by kernel_rfl, r_q1, Row.nil _ _ _ _ _, hb, hs, by omega, rfl, rfl⟩ ?_
  rintro m5 s6 w7 ⟨i, acc, v_4, hm, hds, f_2, f_3, f_4, f_5, r_q1, r_4, hb, hs, i1, i2, i3⟩
  refine W_set 2 _ f_2 (W_set 3 _ f_3 (W_set 4 _ f_4 (W_set 5 _ f_5 ?_)))
  clear f_2 f_3 f_4 f_5
  have hsl := spots_len s
  refine W_seq (W_seq (W_region (L_mv (L_mv (L_len 59 62 (spotsFrom s 0).length q1 rfl Try.underlying59 (r_q1.rd).len (by kernel_rfl) (L_cmp .i64 ((i : Nat) : Int) (((spotsFrom s 0).length : Nat) : Int) (i < (spotsFrom s 0).length) rfl (cmpN_lt i ((spotsFrom s 0).length)) (by kernel_rfl) (by kernel_rfl) ?_ ?_))))))
  · intro h8
    replace h8 : i < (spotsFrom s 0).length := by omega
    refine L_nil (thenQ_normal (W_true (by kernel_rfl) (W_skip (thenQ_normal (W_seq (W_block (W_region (L_mv (L_mv (L_mv ?_))))))))))
    obtain ⟨x9, hx10⟩ := get_some (spotsFrom s 0) i (by omega)
    have hz := (r_q1.rd).at (k := 4) (fun _ => rfl) hx10
    obtain ⟨g11, off12, hl13, hc14⟩ := hz
    refine L_ixaddr (k := .i64) q1 i _ g11 off12 el59 hl13 (by omega) (by kernel_rfl) (by kernel_rfl) (L_run (.pointer (some ⟨g11, ((off12 + i * 4) + 2), none⟩)) (by kernel_rfl) (by kernel_rfl) (L_load g11 ((off12 + i * 4) + 2) (.int .i32 x9.2.2.1) (by kernel_rfl) (by kernel_rfl) (hc14 2 _ rfl) (L_app el64 w.heap.size v_4 acc x9.2.2.1 hs r_4 (by omega) (by kernel_rfl) rfl rfl (by kernel_rfl) rfl (by kernel_rfl) (by kernel_rfl) ?_)))
    intro v15 w16 hr17 hg18 how19
    replace hb := hb.grown hg18 hs (fun k hk => (World.ownsRow.lt r_4 k hk).1)
    replace hs := Nat.le_trans hs (hg18.size)
    have n_r_q1 := r_q1.grown hg18 (r_q1.apart r_4 (by kernel_rfl))
    replace r_q1 := n_r_q1; clear n_r_q1
    replace r_4 := hr17
    refine L_as (L_nil (blkQ_normal (thenQ_normal (W_region (L_mv (L_addN i 1 (by omega) (by kernel_rfl) (by kernel_rfl) (L_as (L_nil ?_))))))))
    refine thenQ_normal ⟨_, ?_, (i + 1), (acc ++ [x9.2.2.1]), v15, rfl, hds, by kernel_rfl, by kernel_rfl, by kernel_rfl, by kernel_rfl, r_q1, r_4, hb, hs, ?_, ?_, ?_⟩
    · omega
    · omega
    · (try simp only [List.length_append, List.length_cons, List.length_nil]); omega
    · rw [i3, take_succ_some (by assumption), List.map_append]; rfl
  · intro h20
    replace h20 : (spotsFrom s 0).length ≤ i := by omega
    refine L_nil (thenQ_normal (W_false (by kernel_rfl) (W_exit (thenQ_exit (thenQ_exit (blkQ_exit (thenQ_normal (W_seq (W_region (L_mv (L_as (L_nil (thenQ_normal (W_ret ?_))))))))))))))
    refine end_ret [.tmp 2] [v_4] rfl hds ⟨by kernel_rfl, trivial⟩ ?_
    have e0 : acc = runesFrom s 0 := by rw [← rrunes_eq, i3, List.take_of_length_le (by omega)]; rfl
    exact ⟨v_4, rfl, r_4.cast e0, hb⟩

set_option maxHeartbeats 4000000 in
set_option maxRecDepth 100000 in
theorem c_furrowref05_Loose (s : List UInt8) (w : World) (hs : s.length ≤ 1073741824) :
    Calls Try.prog 19 #[(S s)] w (Ret fun v w' => v = (S (looseS s)) ∧ Below w.heap.size w w') := by
  refine enter (args := [(S s)]) Try.func19 rfl (by kernel_rfl : _ = 43) (by kernel_rfl) ?_
  have hb := Below.refl w.heap.size w
  have hs : w.heap.size ≤ w.heap.size := Nat.le_refl _
  refine W_seq (W_region (L_as (L_nil (thenQ_normal (W_seq (W_region (L_mv (L_call 42 [(S s)] (by kernel_rfl) (by kernel_rfl) (c_furrowref01_Runes s _ (by omega)) ?_))))))))
  rintro q1 w2 ⟨_, rfl, r_q1, hB3⟩
  replace r_q1 := r_q1.base hs
  replace hb := hb.trans (hB3.mono hs)
  replace hs := Nat.le_trans hs (hB3.size)
  refine L_as (L_nil (thenQ_normal (W_seq (W_region (L_as (L_nil (thenQ_normal (W_seq (W_seq (W_region (L_as (L_nil (thenQ_normal (W_block ?_))))))))))))))
  refine W_loop (fun m s0 w0 => ∃ (i : Nat) (acc : List Int) (v_4 : Value), (m = (runesFrom s 0).length - i) ∧ (s0.ds = []) ∧ (s0.f 2 = (S ([] : List UInt8))) ∧ (s0.f 3 = q1) ∧ (s0.f 4 = v_4) ∧ (s0.f 5 = (.int .i64 ((i : Nat) : Int))) ∧ (Row w0 w.heap.size 21 1 encI32 q1 (runesFrom s 0)) ∧ (Row w0 w.heap.size 21 1 encI32 v_4 acc) ∧ (Value.ownBlock q1 = none ∨ Value.ownBlock q1 ≠ Value.ownBlock v_4) ∧ (Below w.heap.size w w0) ∧ (w.heap.size ≤ w0.heap.size) ∧ (i ≤ (runesFrom s 0).length) ∧ (acc.length ≤ i) ∧ (acc ++ looseL ((runesFrom s 0).drop i) = looseL (runesFrom s 0))) _ ⟨0, [], (.slice none 0 0), rfl, by kernel_rfl, by kernel_rfl, by kernel_rfl, by kernel_rfl, by kernel_rfl, r_q1, Row.nil _ _ _ _ _, ap_nil _, hb, hs, by omega, Nat.le_refl _, rfl⟩ ?_
  rintro m5 s6 w7 ⟨i, acc, v_4, hm, hds, f_2, f_3, f_4, f_5, r_q1, r_4, ap_r_q1_r_4, hb, hs, i1, i2, i3⟩
  refine W_set 2 _ f_2 (W_set 3 _ f_3 (W_set 4 _ f_4 (W_set 5 _ f_5 ?_)))
  clear f_2 f_3 f_4 f_5
  have hrl := runes_len s
  refine W_seq (W_seq (W_region (L_mv (L_mv (L_len 64 21 (runesFrom s 0).length q1 rfl Try.underlying64 (r_q1.rd).len (by kernel_rfl) (L_cmp .i64 ((i : Nat) : Int) (((runesFrom s 0).length : Nat) : Int) (i < (runesFrom s 0).length) rfl (cmpN_lt i ((runesFrom s 0).length)) (by kernel_rfl) (by kernel_rfl) ?_ ?_))))))
  · intro h8
    replace h8 : i < (runesFrom s 0).length := by omega
    refine L_nil (thenQ_normal (W_true (by kernel_rfl) (W_skip (thenQ_normal (W_seq (W_block (W_seq (W_region (L_mv (L_mv ?_))))))))))
    obtain ⟨x9, hx10⟩ := get_some (runesFrom s 0) i (by omega)
    have hz := (r_q1.rd).at (k := 1) (fun _ => rfl) hx10
    obtain ⟨g11, off12, hl13, hc14⟩ := hz
    refine L_ixaddr (k := .i64) q1 i _ g11 off12 el64 hl13 (by omega) (by kernel_rfl) (by kernel_rfl) (L_load g11 (off12 + i * 1) (.int .i32 x9) (by kernel_rfl) (by kernel_rfl) (hc14 0 _ rfl) (L_as (L_nil (thenQ_normal (W_seq (W_seq (W_region (L_mv (L_call 14 [(.int .i32 x9)] (by kernel_rfl) (by kernel_rfl) (c_furrowref05_Blank x9 _ ) ?_)))))))))
    rintro _ w15 ⟨rfl, hB16⟩
    replace hb := hb.trans (hB16.mono hs)
    replace hs := Nat.le_trans hs (hB16.size)
    replace r_q1 := r_q1.below hB16
    replace r_4 := r_4.below hB16
    refine put_split (blankB x9) ?_ ?_
    · intro h18
      refine L_mv (L_skip (by kernel_rfl) (L_skip (by kernel_rfl) (L_pickT (by kernel_rfl) (L_mv (L_skip (by kernel_rfl) (L_skip (by kernel_rfl) (L_pickT (by kernel_rfl) (L_nil (thenQ_normal (W_true (by kernel_rfl) (W_exit (thenQ_exit (blkQ_exit (thenQ_normal (W_region (L_mv (L_addN i 1 (by omega) (by kernel_rfl) (by kernel_rfl) (L_as (L_nil ?_)))))))))))))))))))
      refine thenQ_normal ⟨_, ?_, (i + 1), acc, v_4, rfl, hds, by kernel_rfl, by kernel_rfl, by kernel_rfl, by kernel_rfl, r_q1, r_4, ap_r_q1_r_4, hb, hs, ?_, ?_, ?_⟩
      · omega
      · omega
      · (try simp only [List.length_append, List.length_cons, List.length_nil]); omega
      · rw [← i3, drop_some (k := i) (by assumption), looseL_cons]; simp [dropB, *]; try (unfold lowerI; split <;> omega)
    · intro h19
      refine L_mv (L_want (by kernel_rfl) (L_mv (L_want (by kernel_rfl) (L_cmp .i32 x9 95 (x9 = 95) rfl (cmp_eq x9 95) (by kernel_rfl) (by kernel_rfl) ?_ ?_))))
      · intro h20
        replace h20 : x9 = 95 := by omega
        refine L_pickF (by kernel_rfl) (L_mv (L_skip (by kernel_rfl) (L_skip (by kernel_rfl) (L_pickT (by kernel_rfl) (L_nil (thenQ_normal (W_true (by kernel_rfl) (W_exit (thenQ_exit (blkQ_exit (thenQ_normal (W_region (L_mv (L_addN i 1 (by omega) (by kernel_rfl) (by kernel_rfl) (L_as (L_nil ?_))))))))))))))))
        refine thenQ_normal ⟨_, ?_, (i + 1), acc, v_4, rfl, hds, by kernel_rfl, by kernel_rfl, by kernel_rfl, by kernel_rfl, r_q1, r_4, ap_r_q1_r_4, hb, hs, ?_, ?_, ?_⟩
        · omega
        · omega
        · (try simp only [List.length_append, List.length_cons, List.length_nil]); omega
        · rw [← i3, drop_some (k := i) (by assumption), looseL_cons]; simp [dropB, *]; try (unfold lowerI; split <;> omega)
      · intro h21
        replace h21 : x9 ≠ 95 := by omega
        refine L_pickF (by kernel_rfl) (L_mv (L_want (by kernel_rfl) (L_mv (L_want (by kernel_rfl) (L_cmp .i32 x9 45 (x9 = 45) rfl (cmp_eq x9 45) (by kernel_rfl) (by kernel_rfl) ?_ ?_)))))
        · intro h22
          replace h22 : x9 = 45 := by omega
          refine L_pickF (by kernel_rfl) (L_nil (thenQ_normal (W_true (by kernel_rfl) (W_exit (thenQ_exit (blkQ_exit (thenQ_normal (W_region (L_mv (L_addN i 1 (by omega) (by kernel_rfl) (by kernel_rfl) (L_as (L_nil ?_))))))))))))
          refine thenQ_normal ⟨_, ?_, (i + 1), acc, v_4, rfl, hds, by kernel_rfl, by kernel_rfl, by kernel_rfl, by kernel_rfl, r_q1, r_4, ap_r_q1_r_4, hb, hs, ?_, ?_, ?_⟩
          · omega
          · omega
          · (try simp only [List.length_append, List.length_cons, List.length_nil]); omega
          · rw [← i3, drop_some (k := i) (by assumption), looseL_cons]; simp [dropB, *]; try (unfold lowerI; split <;> omega)
        · intro h23
          replace h23 : x9 ≠ 45 := by omega
          refine L_pickF (by kernel_rfl) (L_nil (thenQ_normal (W_false (by kernel_rfl) (W_skip (thenQ_normal (W_seq (W_seq (W_region (L_mv (L_cmp .i32 x9 65 (65 ≤ x9) rfl (cmp_ge x9 65) (by kernel_rfl) (by kernel_rfl) ?_ ?_))))))))))
          · intro h24
            replace h24 : 65 ≤ x9 := by omega
            refine L_mv (L_want (by kernel_rfl) (L_mv (L_want (by kernel_rfl) (L_cmp .i32 x9 90 (x9 ≤ 90) rfl (cmp_le x9 90) (by kernel_rfl) (by kernel_rfl) ?_ ?_))))
            · intro h25
              replace h25 : x9 ≤ 90 := by omega
              refine L_pickT (by kernel_rfl) (L_nil (thenQ_normal (W_true (by kernel_rfl) (W_region (L_mv (L_arith x9 32 (x9 + 32) rfl (by kernel_rfl) (by kernel_rfl) (wrap_i32 _ (by simp only [arithZ]; omega) (by simp only [arithZ]; omega)) (L_as (L_nil (thenQ_normal (W_region (L_mv (L_mv (L_app el64 w.heap.size v_4 acc (x9 + 32) hs r_4 (by omega) (by kernel_rfl) rfl rfl (by kernel_rfl) rfl (by kernel_rfl) (by kernel_rfl) ?_)))))))))))))
              intro v26 w27 hr28 hg29 how30
              have nap_r_q1 := ap_app r_q1 how30 ap_r_q1_r_4
              replace hb := hb.grown hg29 hs (fun k hk => (World.ownsRow.lt r_4 k hk).1)
              replace hs := Nat.le_trans hs (hg29.size)
              have n_r_q1 := r_q1.grown hg29 ap_r_q1_r_4
              replace r_q1 := n_r_q1; clear n_r_q1
              have ap_r_q1_r_4 := nap_r_q1
              replace r_4 := hr28
              refine L_as (L_nil (blkQ_normal (thenQ_normal (W_region (L_mv (L_addN i 1 (by omega) (by kernel_rfl) (by kernel_rfl) (L_as (L_nil ?_))))))))
              refine thenQ_normal ⟨_, ?_, (i + 1), (acc ++ [(x9 + 32)]), v26, rfl, hds, by kernel_rfl, by kernel_rfl, by kernel_rfl, by kernel_rfl, r_q1, r_4, ap_r_q1_r_4, hb, hs, ?_, ?_, ?_⟩
              · omega
              · omega
              · (try simp only [List.length_append, List.length_cons, List.length_nil]); omega
              · rw [← i3, drop_some (k := i) (by assumption), looseL_cons]; simp [dropB, *]; try (unfold lowerI; split <;> omega)
            · intro h31
              replace h31 : 90 < x9 := by omega
              refine L_pickT (by kernel_rfl) (L_nil (thenQ_normal (W_false (by kernel_rfl) (W_skip (thenQ_normal (W_region (L_mv (L_mv (L_app el64 w.heap.size v_4 acc x9 hs r_4 (by omega) (by kernel_rfl) rfl rfl (by kernel_rfl) rfl (by kernel_rfl) (by kernel_rfl) ?_)))))))))
              intro v32 w33 hr34 hg35 how36
              have nap_r_q1 := ap_app r_q1 how36 ap_r_q1_r_4
              replace hb := hb.grown hg35 hs (fun k hk => (World.ownsRow.lt r_4 k hk).1)
              replace hs := Nat.le_trans hs (hg35.size)
              have n_r_q1 := r_q1.grown hg35 ap_r_q1_r_4
              replace r_q1 := n_r_q1; clear n_r_q1
              have ap_r_q1_r_4 := nap_r_q1
              replace r_4 := hr34
              refine L_as (L_nil (blkQ_normal (thenQ_normal (W_region (L_mv (L_addN i 1 (by omega) (by kernel_rfl) (by kernel_rfl) (L_as (L_nil ?_))))))))
              refine thenQ_normal ⟨_, ?_, (i + 1), (acc ++ [x9]), v32, rfl, hds, by kernel_rfl, by kernel_rfl, by kernel_rfl, by kernel_rfl, r_q1, r_4, ap_r_q1_r_4, hb, hs, ?_, ?_, ?_⟩
              · omega
              · omega
              · (try simp only [List.length_append, List.length_cons, List.length_nil]); omega
              · rw [← i3, drop_some (k := i) (by assumption), looseL_cons]; simp [dropB, *]; try (unfold lowerI; split <;> omega)
          · intro h37
            replace h37 : x9 < 65 := by omega
            refine L_mv (L_skip (by kernel_rfl) (L_skip (by kernel_rfl) (L_pickF (by kernel_rfl) (L_nil (thenQ_normal (W_false (by kernel_rfl) (W_skip (thenQ_normal (W_region (L_mv (L_mv (L_app el64 w.heap.size v_4 acc x9 hs r_4 (by omega) (by kernel_rfl) rfl rfl (by kernel_rfl) rfl (by kernel_rfl) (by kernel_rfl) ?_))))))))))))
            intro v38 w39 hr40 hg41 how42
            have nap_r_q1 := ap_app r_q1 how42 ap_r_q1_r_4
            replace hb := hb.grown hg41 hs (fun k hk => (World.ownsRow.lt r_4 k hk).1)
            replace hs := Nat.le_trans hs (hg41.size)
            have n_r_q1 := r_q1.grown hg41 ap_r_q1_r_4
            replace r_q1 := n_r_q1; clear n_r_q1
            have ap_r_q1_r_4 := nap_r_q1
            replace r_4 := hr40
            refine L_as (L_nil (blkQ_normal (thenQ_normal (W_region (L_mv (L_addN i 1 (by omega) (by kernel_rfl) (by kernel_rfl) (L_as (L_nil ?_))))))))
            refine thenQ_normal ⟨_, ?_, (i + 1), (acc ++ [x9]), v38, rfl, hds, by kernel_rfl, by kernel_rfl, by kernel_rfl, by kernel_rfl, r_q1, r_4, ap_r_q1_r_4, hb, hs, ?_, ?_, ?_⟩
            · omega
            · omega
            · (try simp only [List.length_append, List.length_cons, List.length_nil]); omega
            · rw [← i3, drop_some (k := i) (by assumption), looseL_cons]; simp [dropB, *]; try (unfold lowerI; split <;> omega)
  · intro h43
    replace h43 : (runesFrom s 0).length ≤ i := by omega
    refine L_nil (thenQ_normal (W_false (by kernel_rfl) (W_exit (thenQ_exit (thenQ_exit (blkQ_exit (thenQ_normal (W_seq (W_region (L_mv (L_call 43 [v_4] (by kernel_rfl) (by kernel_rfl) (c_furrowref01_Encode v_4 acc _ r_4.rd (by omega) (by (rw [List.drop_eq_nil_of_le (by omega)] at i3; simp only [looseL, List.filter_nil, List.map_nil, List.append_nil] at i3; rw [i3]; exact loose_range))) ?_)))))))))))
    rintro _ w44 ⟨rfl, hB45⟩
    replace hb := hb.trans (hB45.mono hs)
    replace hs := Nat.le_trans hs (hB45.size)
    replace r_q1 := r_q1.below hB45
    replace r_4 := r_4.below hB45
    refine L_as (L_nil (thenQ_normal (W_ret ?_)))
    refine end_ret [.tmp 2] [(S (encL acc))] rfl hds ⟨by kernel_rfl, trivial⟩ ?_
    have e0 : encL acc = looseS s := by rw [looseS, ← i3, List.drop_eq_nil_of_le (by omega)]; simp [looseL]
    exact ⟨congrArg S e0, hb⟩

set_option maxHeartbeats 4000000 in
set_option maxRecDepth 100000 in
theorem c_furrowlaw05_WordsLoose (a : List UInt8) (b : List UInt8) (w : World) (ha : a.length ≤ 1073741824) (hb_ : b.length ≤ 1073741824) :
    Calls Try.prog 5 #[(S a), (S b)] w (Ret fun v w' => v = (.bool true) ∧ Below w.heap.size w w') := by
  refine enter (args := [(S a), (S b)]) Try.func5 rfl (by kernel_rfl : _ = 24) (by kernel_rfl) ?_
  have hb := Below.refl w.heap.size w
  have hs : w.heap.size ≤ w.heap.size := Nat.le_refl _
  refine W_seq (W_region (L_as (L_nil (thenQ_normal (W_seq (W_region (L_mv (L_call 18 [(S a)] (by kernel_rfl) (by kernel_rfl) (c_words_Loose a _ (by omega)) ?_))))))))
  rintro _ w1 ⟨rfl, hB2⟩
  replace hb := hb.trans (hB2.mono hs)
  replace hs := Nat.le_trans hs (hB2.size)
  refine L_mv (L_call 19 [(S a)] (by kernel_rfl) (by kernel_rfl) (c_furrowref05_Loose a _ (by omega)) ?_)
  rintro _ w4 ⟨rfl, hB5⟩
  replace hb := hb.trans (hB5.mono hs)
  replace hs := Nat.le_trans hs (hB5.size)
  refine L_seq (looseS a) (looseS a) rfl (by kernel_rfl) (by kernel_rfl) ?_ ?_
  · intro h7
    refine L_mv (L_want (by kernel_rfl) (L_mv (L_want (by kernel_rfl) (L_mv (L_want (by kernel_rfl) (L_call 20 [(S a), (S b)] (by kernel_rfl) (by kernel_rfl) (c_words_Alike a b _ (by omega) (by omega)) ?_))))))
    rintro _ w8 ⟨rfl, hB9⟩
    replace hb := hb.trans (hB9.mono hs)
    replace hs := Nat.le_trans hs (hB9.size)
    refine put_split (alikeB a b) ?_ ?_
    · intro h11
      refine L_want (by kernel_rfl) (L_mv (L_want (by kernel_rfl) (L_call 19 [(S a)] (by kernel_rfl) (by kernel_rfl) (c_furrowref05_Loose a _ (by omega)) ?_)))
      rintro _ w12 ⟨rfl, hB13⟩
      replace hb := hb.trans (hB13.mono hs)
      replace hs := Nat.le_trans hs (hB13.size)
      refine L_want (by kernel_rfl) (L_mv (L_want (by kernel_rfl) (L_call 19 [(S b)] (by kernel_rfl) (by kernel_rfl) (c_furrowref05_Loose b _ (by omega)) ?_)))
      rintro _ w15 ⟨rfl, hB16⟩
      replace hb := hb.trans (hB16.mono hs)
      replace hs := Nat.le_trans hs (hB16.size)
      refine L_want (by kernel_rfl) (L_seq (looseS a) (looseS b) rfl (by kernel_rfl) (by kernel_rfl) ?_ ?_)
      · intro h18
        refine L_want (by kernel_rfl) (L_run (.bool true) (by kernel_rfl) (by kernel_rfl) (L_pickT (by kernel_rfl) (L_mv (L_want (by kernel_rfl) (L_call 15 [] (by kernel_rfl) (by kernel_rfl) (c_furrowlaw05_awake  _ ) ?_)))))
        rintro _ w19 ⟨rfl, hB20⟩
        replace hb := hb.trans (hB20.mono hs)
        replace hs := Nat.le_trans hs (hB20.size)
        refine L_pickT (by kernel_rfl) (L_as (L_nil (thenQ_normal (W_ret ?_))))
        refine end_ret [.tmp 4] [(.bool true)] rfl rfl ⟨by kernel_rfl, trivial⟩ ?_
        have e0 : true = true := by first | rfl | (simp_all; done) | (simp_all [alikeB]; done)
        exact ⟨congrArg Value.bool e0, hb⟩
      · intro h22
        refine L_want (by kernel_rfl) (L_run (.bool false) (by kernel_rfl) (by kernel_rfl) (L_pickT (by kernel_rfl) (L_mv (L_skip (by kernel_rfl) (L_pickF (by kernel_rfl) (L_as (L_nil (thenQ_normal (W_ret ?_)))))))))
        refine end_ret [.tmp 4] [(.bool false)] rfl rfl ⟨by kernel_rfl, trivial⟩ ?_
        have e0 : false = true := by first | rfl | (simp_all; done) | (simp_all [alikeB]; done)
        exact ⟨congrArg Value.bool e0, hb⟩
    · intro h23
      refine L_want (by kernel_rfl) (L_mv (L_want (by kernel_rfl) (L_call 19 [(S a)] (by kernel_rfl) (by kernel_rfl) (c_furrowref05_Loose a _ (by omega)) ?_)))
      rintro _ w24 ⟨rfl, hB25⟩
      replace hb := hb.trans (hB25.mono hs)
      replace hs := Nat.le_trans hs (hB25.size)
      refine L_want (by kernel_rfl) (L_mv (L_want (by kernel_rfl) (L_call 19 [(S b)] (by kernel_rfl) (by kernel_rfl) (c_furrowref05_Loose b _ (by omega)) ?_)))
      rintro _ w27 ⟨rfl, hB28⟩
      replace hb := hb.trans (hB28.mono hs)
      replace hs := Nat.le_trans hs (hB28.size)
      refine L_want (by kernel_rfl) (L_seq (looseS a) (looseS b) rfl (by kernel_rfl) (by kernel_rfl) ?_ ?_)
      · intro h30
        refine L_want (by kernel_rfl) (L_run (.bool false) (by kernel_rfl) (by kernel_rfl) (L_pickT (by kernel_rfl) (L_mv (L_skip (by kernel_rfl) (L_pickF (by kernel_rfl) (L_as (L_nil (thenQ_normal (W_ret ?_)))))))))
        refine end_ret [.tmp 4] [(.bool false)] rfl rfl ⟨by kernel_rfl, trivial⟩ ?_
        have e0 : false = true := by first | rfl | (simp_all; done) | (simp_all [alikeB]; done)
        exact ⟨congrArg Value.bool e0, hb⟩
      · intro h31
        refine L_want (by kernel_rfl) (L_run (.bool true) (by kernel_rfl) (by kernel_rfl) (L_pickT (by kernel_rfl) (L_mv (L_want (by kernel_rfl) (L_call 15 [] (by kernel_rfl) (by kernel_rfl) (c_furrowlaw05_awake  _ ) ?_)))))
        rintro _ w32 ⟨rfl, hB33⟩
        replace hb := hb.trans (hB33.mono hs)
        replace hs := Nat.le_trans hs (hB33.size)
        refine L_pickT (by kernel_rfl) (L_as (L_nil (thenQ_normal (W_ret ?_))))
        refine end_ret [.tmp 4] [(.bool true)] rfl rfl ⟨by kernel_rfl, trivial⟩ ?_
        have e0 : true = true := by first | rfl | (simp_all; done) | (simp_all [alikeB]; done)
        exact ⟨congrArg Value.bool e0, hb⟩
  · intro h35
    refine L_mv (L_skip (by kernel_rfl) (L_skip (by kernel_rfl) (L_skip (by kernel_rfl) (L_skip (by kernel_rfl) (L_skip (by kernel_rfl) (L_skip (by kernel_rfl) (L_skip (by kernel_rfl) (L_skip (by kernel_rfl) (L_skip (by kernel_rfl) (L_pickF (by kernel_rfl) (L_mv (L_skip (by kernel_rfl) (L_pickF (by kernel_rfl) (L_as (L_nil (thenQ_normal (W_ret ?_)))))))))))))))))
    refine end_ret [.tmp 4] [(.bool false)] rfl rfl ⟨by kernel_rfl, trivial⟩ ?_
    have e0 : false = true := by first | rfl | (simp_all; done) | (simp_all [alikeB]; done)
    exact ⟨congrArg Value.bool e0, hb⟩

set_option maxHeartbeats 4000000 in
set_option maxRecDepth 100000 in
theorem c_furrowref05_Short (c : Int) (w : World) (hc : 0 ≤ c) (hc2 : c ≤ 255) :
    Calls Try.prog 31 #[(.int .u8 c)] w (Ret fun v w' => v = (S (shortS c)) ∧ Below w.heap.size w w') := by
  refine enter (args := [(.int .u8 c)]) Try.func31 rfl (by kernel_rfl : _ = 15) (by kernel_rfl) ?_
  have hb := Below.refl w.heap.size w
  have hs : w.heap.size ≤ w.heap.size := Nat.le_refl _
  have htl := shortTab_len
  refine W_seq (W_region (L_as (L_nil (thenQ_normal (W_seq (W_region (L_new (fun b => .slice (some ⟨b, 0, none⟩) 24 24) (.cells [(S ([] : List UInt8)), (S ([76] : List UInt8)), (S ([82] : List UInt8)), (S ([65, 76] : List UInt8)), (S ([69, 78] : List UInt8)), (S ([69, 83] : List UInt8)), (S ([69, 84] : List UInt8)), (S ([65, 78] : List UInt8)), (S ([67, 83] : List UInt8)), (S ([78, 83, 77] : List UInt8)), (S ([66, 78] : List UInt8)), (S ([66] : List UInt8)), (S ([83] : List UInt8)), (S ([87, 83] : List UInt8)), (S ([79, 78] : List UInt8)), (S ([76, 82, 69] : List UInt8)), (S ([76, 82, 79] : List UInt8)), (S ([82, 76, 69] : List UInt8)), (S ([82, 76, 79] : List UInt8)), (S ([80, 68, 70] : List UInt8)), (S ([76, 82, 73] : List UInt8)), (S ([82, 76, 73] : List UInt8)), (S ([70, 83, 73] : List UInt8)), (S ([80, 68, 73] : List UInt8))].toArray 9 (0, 0)) (by kernel_rfl) (by kernel_rfl) ?_)))))))
  intro b1 w2 hN3
  have g_b1 : w.heap.size ≤ b1 := by rw [hN3.num]; exact hs
  replace hb := hb.trans (hN3.below.mono hs)
  replace hs := Nat.le_trans hs (hN3.below.size)
  have r_b1 : Row w2 w.heap.size 9 1 encStr (.slice (some ⟨b1, 0, none⟩) 24 24) shortTab := Row.made shortTab hN3 g_b1 rfl rfl (by first | decide | (simp; done))
  refine L_as (L_nil (thenQ_normal (W_seq (W_seq (W_region (L_mv (L_conv (k := .u8) c c (by kernel_rfl) Try.underlying3 (by kernel_rfl) (wrap_i64 _ (by omega) (by omega)) (L_mv (L_len 43 9 (shortTab).length (.slice (some ⟨b1, 0, none⟩) 24 24) rfl Try.underlying43 (r_b1.rd).len (by kernel_rfl) (L_cmp .i64 c (((shortTab).length : Nat) : Int) ((((shortTab).length : Nat) : Int) ≤ c) rfl (cmp_ge c (((shortTab).length : Nat) : Int)) (by kernel_rfl) (by kernel_rfl) ?_ ?_))))))))))
  · intro h4
    replace h4 : (((shortTab).length : Nat) : Int) ≤ c := by omega
    refine L_nil (thenQ_normal (W_true (by kernel_rfl) (W_seq (W_region (L_as (L_nil (thenQ_normal (W_ret (thenQ_ret ?_)))))))))
    refine end_ret [.tmp 2] [(S ([] : List UInt8))] rfl rfl ⟨by kernel_rfl, trivial⟩ ?_
    have e0 : ([] : List UInt8) = shortS c := by first | (rw [shortS_none (by omega)]; done) | exact shortS_tab (by omega) (by assumption)
    exact ⟨congrArg S e0, hb⟩
  · intro h5
    replace h5 : c < (((shortTab).length : Nat) : Int) := by omega
    refine L_nil (thenQ_normal (W_false (by kernel_rfl) (W_skip (thenQ_normal (W_seq (W_region (L_mv (L_mv (L_conv (k := .u8) c c (by kernel_rfl) Try.underlying3 (by kernel_rfl) (wrap_i64 _ (by omega) (by omega)) ?_)))))))))
    obtain ⟨x6, hx7⟩ := get_some shortTab c.toNat (by omega)
    have hz := (r_b1.rd).at (k := 1) (fun _ => rfl) hx7
    obtain ⟨g8, off9, hl10, hc11⟩ := hz
    refine L_ixaddrZ (k := .i64) (.slice (some ⟨b1, 0, none⟩) 24 24) c c.toNat _ g8 off9 (by omega) el43 hl10 (by omega) (by kernel_rfl) (by kernel_rfl) (L_load g8 (off9 + c.toNat * 1) (S x6) (by kernel_rfl) (by kernel_rfl) (hc11 0 _ rfl) (L_as (L_nil (thenQ_normal (W_ret ?_)))))
    refine end_ret [.tmp 2] [(S x6)] rfl rfl ⟨by kernel_rfl, trivial⟩ ?_
    have e0 : x6 = shortS c := by first | (rw [shortS_none (by omega)]; done) | exact shortS_tab (by omega) (by assumption)
    exact ⟨congrArg S e0, hb⟩

set_option maxHeartbeats 4000000 in
set_option maxRecDepth 100000 in
theorem c_furrowref05_Long (c : Int) (w : World) (hc : 0 ≤ c) (hc2 : c ≤ 255) :
    Calls Try.prog 32 #[(.int .u8 c)] w (Ret fun v w' => v = (S (longS c)) ∧ Below w.heap.size w w') := by
  refine enter (args := [(.int .u8 c)]) Try.func32 rfl (by kernel_rfl : _ = 15) (by kernel_rfl) ?_
  have hb := Below.refl w.heap.size w
  have hs : w.heap.size ≤ w.heap.size := Nat.le_refl _
  have htl := longTab_len
  refine W_seq (W_region (L_as (L_nil (thenQ_normal (W_seq (W_region (L_new (fun b => .slice (some ⟨b, 0, none⟩) 24 24) (.cells [(S ([] : List UInt8)), (S ([76, 101, 102, 116, 95, 84, 111, 95, 82, 105, 103, 104, 116] : List UInt8)), (S ([82, 105, 103, 104, 116, 95, 84, 111, 95, 76, 101, 102, 116] : List UInt8)), (S ([65, 114, 97, 98, 105, 99, 95, 76, 101, 116, 116, 101, 114] : List UInt8)), (S ([69, 117, 114, 111, 112, 101, 97, 110, 95, 78, 117, 109, 98, 101, 114] : List UInt8)), (S ([69, 117, 114, 111, 112, 101, 97, 110, 95, 83, 101, 112, 97, 114, 97, 116, 111, 114] : List UInt8)), (S ([69, 117, 114, 111, 112, 101, 97, 110, 95, 84, 101, 114, 109, 105, 110, 97, 116, 111, 114] : List UInt8)), (S ([65, 114, 97, 98, 105, 99, 95, 78, 117, 109, 98, 101, 114] : List UInt8)), (S ([67, 111, 109, 109, 111, 110, 95, 83, 101, 112, 97, 114, 97, 116, 111, 114] : List UInt8)), (S ([78, 111, 110, 115, 112, 97, 99, 105, 110, 103, 95, 77, 97, 114, 107] : List UInt8)), (S ([66, 111, 117, 110, 100, 97, 114, 121, 95, 78, 101, 117, 116, 114, 97, 108] : List UInt8)), (S ([80, 97, 114, 97, 103, 114, 97, 112, 104, 95, 83, 101, 112, 97, 114, 97, 116, 111, 114] : List UInt8)), (S ([83, 101, 103, 109, 101, 110, 116, 95, 83, 101, 112, 97, 114, 97, 116, 111, 114] : List UInt8)), (S ([87, 104, 105, 116, 101, 95, 83, 112, 97, 99, 101] : List UInt8)), (S ([79, 116, 104, 101, 114, 95, 78, 101, 117, 116, 114, 97, 108] : List UInt8)), (S ([76, 101, 102, 116, 95, 84, 111, 95, 82, 105, 103, 104, 116, 95, 69, 109, 98, 101, 100, 100, 105, 110, 103] : List UInt8)), (S ([76, 101, 102, 116, 95, 84, 111, 95, 82, 105, 103, 104, 116, 95, 79, 118, 101, 114, 114, 105, 100, 101] : List UInt8)), (S ([82, 105, 103, 104, 116, 95, 84, 111, 95, 76, 101, 102, 116, 95, 69, 109, 98, 101, 100, 100, 105, 110, 103] : List UInt8)), (S ([82, 105, 103, 104, 116, 95, 84, 111, 95, 76, 101, 102, 116, 95, 79, 118, 101, 114, 114, 105, 100, 101] : List UInt8)), (S ([80, 111, 112, 95, 68, 105, 114, 101, 99, 116, 105, 111, 110, 97, 108, 95, 70, 111, 114, 109, 97, 116] : List UInt8)), (S ([76, 101, 102, 116, 95, 84, 111, 95, 82, 105, 103, 104, 116, 95, 73, 115, 111, 108, 97, 116, 101] : List UInt8)), (S ([82, 105, 103, 104, 116, 95, 84, 111, 95, 76, 101, 102, 116, 95, 73, 115, 111, 108, 97, 116, 101] : List UInt8)), (S ([70, 105, 114, 115, 116, 95, 83, 116, 114, 111, 110, 103, 95, 73, 115, 111, 108, 97, 116, 101] : List UInt8)), (S ([80, 111, 112, 95, 68, 105, 114, 101, 99, 116, 105, 111, 110, 97, 108, 95, 73, 115, 111, 108, 97, 116, 101] : List UInt8))].toArray 9 (0, 0)) (by kernel_rfl) (by kernel_rfl) ?_)))))))
  intro b1 w2 hN3
  have g_b1 : w.heap.size ≤ b1 := by rw [hN3.num]; exact hs
  replace hb := hb.trans (hN3.below.mono hs)
  replace hs := Nat.le_trans hs (hN3.below.size)
  have r_b1 : Row w2 w.heap.size 9 1 encStr (.slice (some ⟨b1, 0, none⟩) 24 24) longTab := Row.made longTab hN3 g_b1 rfl rfl (by first | decide | (simp; done))
  refine L_as (L_nil (thenQ_normal (W_seq (W_seq (W_region (L_mv (L_conv (k := .u8) c c (by kernel_rfl) Try.underlying3 (by kernel_rfl) (wrap_i64 _ (by omega) (by omega)) (L_mv (L_len 43 9 (longTab).length (.slice (some ⟨b1, 0, none⟩) 24 24) rfl Try.underlying43 (r_b1.rd).len (by kernel_rfl) (L_cmp .i64 c (((longTab).length : Nat) : Int) ((((longTab).length : Nat) : Int) ≤ c) rfl (cmp_ge c (((longTab).length : Nat) : Int)) (by kernel_rfl) (by kernel_rfl) ?_ ?_))))))))))
  · intro h4
    replace h4 : (((longTab).length : Nat) : Int) ≤ c := by omega
    refine L_nil (thenQ_normal (W_true (by kernel_rfl) (W_seq (W_region (L_as (L_nil (thenQ_normal (W_ret (thenQ_ret ?_)))))))))
    refine end_ret [.tmp 2] [(S ([] : List UInt8))] rfl rfl ⟨by kernel_rfl, trivial⟩ ?_
    have e0 : ([] : List UInt8) = longS c := by first | (rw [longS_none (by omega)]; done) | exact longS_tab (by omega) (by assumption)
    exact ⟨congrArg S e0, hb⟩
  · intro h5
    replace h5 : c < (((longTab).length : Nat) : Int) := by omega
    refine L_nil (thenQ_normal (W_false (by kernel_rfl) (W_skip (thenQ_normal (W_seq (W_region (L_mv (L_mv (L_conv (k := .u8) c c (by kernel_rfl) Try.underlying3 (by kernel_rfl) (wrap_i64 _ (by omega) (by omega)) ?_)))))))))
    obtain ⟨x6, hx7⟩ := get_some longTab c.toNat (by omega)
    have hz := (r_b1.rd).at (k := 1) (fun _ => rfl) hx7
    obtain ⟨g8, off9, hl10, hc11⟩ := hz
    refine L_ixaddrZ (k := .i64) (.slice (some ⟨b1, 0, none⟩) 24 24) c c.toNat _ g8 off9 (by omega) el43 hl10 (by omega) (by kernel_rfl) (by kernel_rfl) (L_load g8 (off9 + c.toNat * 1) (S x6) (by kernel_rfl) (by kernel_rfl) (hc11 0 _ rfl) (L_as (L_nil (thenQ_normal (W_ret ?_)))))
    refine end_ret [.tmp 2] [(S x6)] rfl rfl ⟨by kernel_rfl, trivial⟩ ?_
    have e0 : x6 = longS c := by first | (rw [longS_none (by omega)]; done) | exact longS_tab (by omega) (by assumption)
    exact ⟨congrArg S e0, hb⟩

set_option maxHeartbeats 4000000 in
set_option maxRecDepth 100000 in
theorem c_furrowref05_Letter (s : Int) (w : World) (hs_ : 0 ≤ s) (hs2 : s ≤ 255) :
    Calls Try.prog 30 #[(.int .u8 s)] w (Ret fun v w' => v = (.tuple #[(S (letterS s)), (.int .i64 (letterE s))]) ∧ Below w.heap.size w w') := by
  refine enter (args := [(.int .u8 s)]) Try.func30 rfl (by kernel_rfl : _ = 11) (by kernel_rfl) ?_
  have hb := Below.refl w.heap.size w
  have hs : w.heap.size ≤ w.heap.size := Nat.le_refl _
  refine W_seq (W_region (L_as (L_as (L_nil (thenQ_normal (W_seq (W_seq (W_region (L_mv (L_cmp .u8 s 2 (2 < s) rfl (cmp_gt s 2) (by kernel_rfl) (by kernel_rfl) ?_ ?_))))))))))
  · intro h1
    replace h1 : 2 < s := by omega
    refine L_nil (thenQ_normal (W_true (by kernel_rfl) (W_seq (W_region (L_as (L_as (L_nil (thenQ_normal (W_ret (thenQ_ret ?_))))))))))
    refine end_ret [.tmp 2, .tmp 3] [(S ([] : List UInt8)), (.int .i64 2)] rfl rfl ⟨by kernel_rfl, by kernel_rfl, trivial⟩ ?_
    have hE : (([] : List UInt8) = letterS s) ∧ ((2 : Int) = letterE s) := ⟨(by first | (rw [letterS_none (by omega)]; done) | exact letterS_tab (by omega) (by omega) (by assumption)), (by unfold letterE; split <;> omega)⟩
    exact ⟨tup2 (congrArg S hE.1) (congrArg (Value.int .i64) hE.2), hb⟩
  · intro h2
    replace h2 : s ≤ 2 := by omega
    refine L_nil (thenQ_normal (W_false (by kernel_rfl) (W_skip (thenQ_normal (W_seq (W_region (L_mv (L_conv (k := .u8) s s (by kernel_rfl) Try.underlying3 (by kernel_rfl) (wrap_i64 _ (by omega) (by omega)) ?_))))))))
    obtain ⟨c3, hc4⟩ := get_some ([110, 111, 99] : List UInt8) s.toNat (by first | omega | (simp; omega))
    have := c3.toNat_lt
    refine L_sindexZ (k := .i64) ([110, 111, 99] : List UInt8) s s.toNat c3 (by omega) Try.underlying9 hc4 (by kernel_rfl) (by kernel_rfl) (L_new (fun b => .slice (some ⟨b, 0, none⟩) 1 1) (.cells [(.int .u8 ((c3.toNat : Nat) : Int))].toArray 5 (0, 0)) (by kernel_rfl) (by kernel_rfl) ?_)
    intro b5 w6 hN7
    have g_b5 : w.heap.size ≤ b5 := by rw [hN7.num]; exact hs
    replace hb := hb.trans (hN7.below.mono hs)
    replace hs := Nat.le_trans hs (hN7.below.size)
    have r_b5 : Row w6 w.heap.size 5 1 encU8 (.slice (some ⟨b5, 0, none⟩) 1 1) ([((c3.toNat : Nat) : Int)] : List (Int)) := Row.made ([((c3.toNat : Nat) : Int)] : List (Int)) hN7 g_b5 rfl rfl (by first | decide | (simp; done))
    refine L_bytesStr (.slice (some ⟨b5, 0, none⟩) 1 1) ([((c3.toNat : Nat) : Int)] : List (Int)) Try.underlying56 Try.underlying5 Try.underlying9 (by kernel_rfl) r_b5.rd (L_as (L_as (L_nil (thenQ_normal (W_ret ?_)))))
    refine end_ret [.tmp 2, .tmp 3] [(S (bytesI ([((c3.toNat : Nat) : Int)] : List (Int)))), (.int .i64 0)] rfl rfl ⟨by kernel_rfl, by kernel_rfl, trivial⟩ ?_
    have hE : ((bytesI ([((c3.toNat : Nat) : Int)] : List (Int))) = letterS s) ∧ ((0 : Int) = letterE s) := ⟨(by first | (rw [letterS_none (by omega)]; done) | exact letterS_tab (by omega) (by omega) (by assumption)), (by unfold letterE; split <;> omega)⟩
    exact ⟨tup2 (congrArg S hE.1) (congrArg (Value.int .i64) hE.2), hb⟩

set_option maxHeartbeats 4000000 in
set_option maxRecDepth 100000 in
theorem c_furrowlaw05_WordsTold (c : Int) (s : Int) (w : World) (hc : 0 ≤ c) (hc2 : c ≤ 255) (hs_ : 0 ≤ s) (hs2 : s ≤ 255) :
    Calls Try.prog 9 #[(.int .u8 c), (.int .u8 s)] w (Ret fun v w' => v = (.bool true) ∧ Below w.heap.size w w') := by
  refine enter (args := [(.int .u8 c), (.int .u8 s)]) Try.func9 rfl (by kernel_rfl : _ = 70) (by kernel_rfl) ?_
  have hb := Below.refl w.heap.size w
  have hs : w.heap.size ≤ w.heap.size := Nat.le_refl _
  refine W_seq (W_region (L_as (L_nil (thenQ_normal (W_seq (W_region (L_mv (L_call 27 [(.int .u8 c)] (by kernel_rfl) (by kernel_rfl) (c_words_Short c _ (by omega)) ?_))))))))
  rintro _ w1 ⟨rfl, hB2⟩
  replace hb := hb.trans (hB2.mono hs)
  replace hs := Nat.le_trans hs (hB2.size)
  refine L_mv (L_run (S (shortS c)) (by kernel_rfl) (by kernel_rfl) (L_run (.int .i64 (toldE c)) (by kernel_rfl) (by kernel_rfl) (L_as (L_as (L_nil (thenQ_normal (W_seq (W_region (L_mv (L_call 28 [(.int .u8 c)] (by kernel_rfl) (by kernel_rfl) (c_words_Long c _ (by omega)) ?_))))))))))
  rintro _ w4 ⟨rfl, hB5⟩
  replace hb := hb.trans (hB5.mono hs)
  replace hs := Nat.le_trans hs (hB5.size)
  refine L_mv (L_run (S (longS c)) (by kernel_rfl) (by kernel_rfl) (L_run (.int .i64 (toldE c)) (by kernel_rfl) (by kernel_rfl) (L_as (L_as (L_nil (thenQ_normal (W_seq (W_region (L_mv (L_call 29 [(.int .u8 s)] (by kernel_rfl) (by kernel_rfl) (c_words_Letter s _ ) ?_))))))))))
  rintro _ w7 ⟨rfl, hB8⟩
  replace hb := hb.trans (hB8.mono hs)
  replace hs := Nat.le_trans hs (hB8.size)
  have := letterS_len s
  refine L_mv (L_run (S (letterS s)) (by kernel_rfl) (by kernel_rfl) (L_run (.int .i64 (letterE s)) (by kernel_rfl) (by kernel_rfl) (L_as (L_as (L_nil (thenQ_normal (W_seq (W_region (L_mv (L_call 30 [(.int .u8 s)] (by kernel_rfl) (by kernel_rfl) (c_furrowref05_Letter s _ (by omega) (by omega)) ?_))))))))))
  rintro _ w10 ⟨rfl, hB11⟩
  replace hb := hb.trans (hB11.mono hs)
  replace hs := Nat.le_trans hs (hB11.size)
  refine L_mv (L_run (S (letterS s)) (by kernel_rfl) (by kernel_rfl) (L_run (.int .i64 (letterE s)) (by kernel_rfl) (by kernel_rfl) (L_as (L_as (L_nil (thenQ_normal (W_seq (W_region (L_as (L_nil (thenQ_normal (W_seq (W_seq (W_region (L_mv (L_call 31 [(.int .u8 c)] (by kernel_rfl) (by kernel_rfl) (c_furrowref05_Short c _ (by omega) (by omega)) ?_))))))))))))))))
  rintro _ w13 ⟨rfl, hB14⟩
  replace hb := hb.trans (hB14.mono hs)
  replace hs := Nat.le_trans hs (hB14.size)
  have := shortS_len c
  refine L_seq (shortS c) ([] : List UInt8) rfl (by kernel_rfl) (by kernel_rfl) ?_ ?_
  · intro h16
    refine L_nil (thenQ_normal (W_true (by kernel_rfl) (W_region (L_as (L_nil (thenQ_normal (W_seq (W_region (L_mv (L_mv (L_call 31 [(.int .u8 c)] (by kernel_rfl) (by kernel_rfl) (c_furrowref05_Short c _ (by omega) (by omega)) ?_)))))))))))
    rintro _ w17 ⟨rfl, hB18⟩
    replace hb := hb.trans (hB18.mono hs)
    replace hs := Nat.le_trans hs (hB18.size)
    have := shortS_len c
    refine L_seq (shortS c) (shortS c) rfl (by kernel_rfl) (by kernel_rfl) ?_ ?_
    · intro h20
      refine L_mv (L_want (by kernel_rfl) (L_mv (L_want (by kernel_rfl) (L_mv (L_want (by kernel_rfl) (L_call 32 [(.int .u8 c)] (by kernel_rfl) (by kernel_rfl) (c_furrowref05_Long c _ (by omega) (by omega)) ?_))))))
      rintro _ w21 ⟨rfl, hB22⟩
      replace hb := hb.trans (hB22.mono hs)
      replace hs := Nat.le_trans hs (hB22.size)
      have := longS_len c
      refine L_want (by kernel_rfl) (L_seq (longS c) (longS c) rfl (by kernel_rfl) (by kernel_rfl) ?_ ?_)
      · intro h24
        refine L_pickT (by kernel_rfl) (L_mv (L_want (by kernel_rfl) (L_mv (L_want (by kernel_rfl) (L_mv (L_want (by kernel_rfl) (L_cmp .i64 (toldE c) 2 (toldE c = 2) rfl (cmp_eq (toldE c) 2) (by kernel_rfl) (by kernel_rfl) ?_ ?_)))))))
        · intro h25
          replace h25 : toldE c = 2 := by omega
          refine L_pickT (by kernel_rfl) (L_mv (L_want (by kernel_rfl) (L_mv (L_want (by kernel_rfl) (L_mv (L_want (by kernel_rfl) (L_cmp .i64 (toldE c) 2 (toldE c = 2) rfl (cmp_eq (toldE c) 2) (by kernel_rfl) (by kernel_rfl) ?_ ?_)))))))
          · intro h26
            replace h26 : toldE c = 2 := by omega
            refine L_pickT (by kernel_rfl) (L_mv (L_want (by kernel_rfl) (L_mv (L_want (by kernel_rfl) (L_mv (L_want (by kernel_rfl) (L_seq (letterS s) (letterS s) rfl (by kernel_rfl) (by kernel_rfl) ?_ ?_)))))))
            · intro h27
              refine L_pickT (by kernel_rfl) (L_mv (L_want (by kernel_rfl) (L_mv (L_want (by kernel_rfl) (L_mv (L_want (by kernel_rfl) (L_cmp .i64 (letterE s) (letterE s) (letterE s = letterE s) rfl (cmp_eq (letterE s) (letterE s)) (by kernel_rfl) (by kernel_rfl) ?_ ?_)))))))
              · intro h28
                replace h28 : letterE s = letterE s := by omega
                refine L_pickT (by kernel_rfl) (L_mv (L_want (by kernel_rfl) (L_call 15 [] (by kernel_rfl) (by kernel_rfl) (c_furrowlaw05_awake  _ ) ?_)))
                rintro _ w29 ⟨rfl, hB30⟩
                replace hb := hb.trans (hB30.mono hs)
                replace hs := Nat.le_trans hs (hB30.size)
                refine L_pickT (by kernel_rfl) (L_as (L_nil (thenQ_normal (W_ret ?_))))
                refine end_ret [.tmp 4] [(.bool true)] rfl rfl ⟨by kernel_rfl, trivial⟩ ?_
                have e0 : true = true := by first | rfl | (exfalso; exact absurd (toldE_nil (by assumption)) (by assumption)) | (exfalso; exact absurd (toldE_ok (by assumption)) (by assumption)) | (simp_all; done)
                exact ⟨congrArg Value.bool e0, hb⟩
              · intro h32
                replace h32 : letterE s ≠ letterE s := by omega
                refine L_pickT (by kernel_rfl) (L_mv (L_skip (by kernel_rfl) (L_pickF (by kernel_rfl) (L_as (L_nil (thenQ_normal (W_ret ?_)))))))
                refine end_ret [.tmp 4] [(.bool false)] rfl rfl ⟨by kernel_rfl, trivial⟩ ?_
                have e0 : false = true := by first | rfl | (exfalso; exact absurd (toldE_nil (by assumption)) (by assumption)) | (exfalso; exact absurd (toldE_ok (by assumption)) (by assumption)) | (simp_all; done)
                exact ⟨congrArg Value.bool e0, hb⟩
            · intro h33
              refine L_pickT (by kernel_rfl) (L_mv (L_skip (by kernel_rfl) (L_skip (by kernel_rfl) (L_skip (by kernel_rfl) (L_pickF (by kernel_rfl) (L_mv (L_skip (by kernel_rfl) (L_pickF (by kernel_rfl) (L_as (L_nil (thenQ_normal (W_ret ?_))))))))))))
              refine end_ret [.tmp 4] [(.bool false)] rfl rfl ⟨by kernel_rfl, trivial⟩ ?_
              have e0 : false = true := by first | rfl | (exfalso; exact absurd (toldE_nil (by assumption)) (by assumption)) | (exfalso; exact absurd (toldE_ok (by assumption)) (by assumption)) | (simp_all; done)
              exact ⟨congrArg Value.bool e0, hb⟩
          · intro h34
            replace h34 : toldE c ≠ 2 := by omega
            refine L_pickT (by kernel_rfl) (L_mv (L_skip (by kernel_rfl) (L_skip (by kernel_rfl) (L_skip (by kernel_rfl) (L_pickF (by kernel_rfl) (L_mv (L_skip (by kernel_rfl) (L_skip (by kernel_rfl) (L_skip (by kernel_rfl) (L_pickF (by kernel_rfl) (L_mv (L_skip (by kernel_rfl) (L_pickF (by kernel_rfl) (L_as (L_nil (thenQ_normal (W_ret ?_)))))))))))))))))
            refine end_ret [.tmp 4] [(.bool false)] rfl rfl ⟨by kernel_rfl, trivial⟩ ?_
            have e0 : false = true := by first | rfl | (exfalso; exact absurd (toldE_nil (by assumption)) (by assumption)) | (exfalso; exact absurd (toldE_ok (by assumption)) (by assumption)) | (simp_all; done)
            exact ⟨congrArg Value.bool e0, hb⟩
        · intro h35
          replace h35 : toldE c ≠ 2 := by omega
          refine L_pickT (by kernel_rfl) (L_mv (L_skip (by kernel_rfl) (L_skip (by kernel_rfl) (L_skip (by kernel_rfl) (L_pickF (by kernel_rfl) (L_mv (L_skip (by kernel_rfl) (L_skip (by kernel_rfl) (L_skip (by kernel_rfl) (L_pickF (by kernel_rfl) (L_mv (L_skip (by kernel_rfl) (L_skip (by kernel_rfl) (L_skip (by kernel_rfl) (L_pickF (by kernel_rfl) (L_mv (L_skip (by kernel_rfl) (L_pickF (by kernel_rfl) (L_as (L_nil (thenQ_normal (W_ret ?_))))))))))))))))))))))
          refine end_ret [.tmp 4] [(.bool false)] rfl rfl ⟨by kernel_rfl, trivial⟩ ?_
          have e0 : false = true := by first | rfl | (exfalso; exact absurd (toldE_nil (by assumption)) (by assumption)) | (exfalso; exact absurd (toldE_ok (by assumption)) (by assumption)) | (simp_all; done)
          exact ⟨congrArg Value.bool e0, hb⟩
      · intro h36
        refine L_pickT (by kernel_rfl) (L_mv (L_skip (by kernel_rfl) (L_skip (by kernel_rfl) (L_skip (by kernel_rfl) (L_pickF (by kernel_rfl) (L_mv (L_skip (by kernel_rfl) (L_skip (by kernel_rfl) (L_skip (by kernel_rfl) (L_pickF (by kernel_rfl) (L_mv (L_skip (by kernel_rfl) (L_skip (by kernel_rfl) (L_skip (by kernel_rfl) (L_pickF (by kernel_rfl) (L_mv (L_skip (by kernel_rfl) (L_skip (by kernel_rfl) (L_skip (by kernel_rfl) (L_pickF (by kernel_rfl) (L_mv (L_skip (by kernel_rfl) (L_pickF (by kernel_rfl) (L_as (L_nil (thenQ_normal (W_ret ?_)))))))))))))))))))))))))))
        refine end_ret [.tmp 4] [(.bool false)] rfl rfl ⟨by kernel_rfl, trivial⟩ ?_
        have e0 : false = true := by first | rfl | (exfalso; exact absurd (toldE_nil (by assumption)) (by assumption)) | (exfalso; exact absurd (toldE_ok (by assumption)) (by assumption)) | (simp_all; done)
        exact ⟨congrArg Value.bool e0, hb⟩
    · intro h37
      refine L_mv (L_skip (by kernel_rfl) (L_skip (by kernel_rfl) (L_skip (by kernel_rfl) (L_skip (by kernel_rfl) (L_pickF (by kernel_rfl) (L_mv (L_skip (by kernel_rfl) (L_skip (by kernel_rfl) (L_skip (by kernel_rfl) (L_pickF (by kernel_rfl) (L_mv (L_skip (by kernel_rfl) (L_skip (by kernel_rfl) (L_skip (by kernel_rfl) (L_pickF (by kernel_rfl) (L_mv (L_skip (by kernel_rfl) (L_skip (by kernel_rfl) (L_skip (by kernel_rfl) (L_pickF (by kernel_rfl) (L_mv (L_skip (by kernel_rfl) (L_skip (by kernel_rfl) (L_skip (by kernel_rfl) (L_pickF (by kernel_rfl) (L_mv (L_skip (by kernel_rfl) (L_pickF (by kernel_rfl) (L_as (L_nil (thenQ_normal (W_ret ?_))))))))))))))))))))))))))))))))
      refine end_ret [.tmp 4] [(.bool false)] rfl rfl ⟨by kernel_rfl, trivial⟩ ?_
      have e0 : false = true := by first | rfl | (exfalso; exact absurd (toldE_nil (by assumption)) (by assumption)) | (exfalso; exact absurd (toldE_ok (by assumption)) (by assumption)) | (simp_all; done)
      exact ⟨congrArg Value.bool e0, hb⟩
  · intro h38
    refine L_nil (thenQ_normal (W_false (by kernel_rfl) (W_skip (thenQ_normal (W_seq (W_region (L_mv (L_mv (L_call 31 [(.int .u8 c)] (by kernel_rfl) (by kernel_rfl) (c_furrowref05_Short c _ (by omega) (by omega)) ?_)))))))))
    rintro _ w39 ⟨rfl, hB40⟩
    replace hb := hb.trans (hB40.mono hs)
    replace hs := Nat.le_trans hs (hB40.size)
    have := shortS_len c
    refine L_seq (shortS c) (shortS c) rfl (by kernel_rfl) (by kernel_rfl) ?_ ?_
    · intro h42
      refine L_mv (L_want (by kernel_rfl) (L_mv (L_want (by kernel_rfl) (L_mv (L_want (by kernel_rfl) (L_call 32 [(.int .u8 c)] (by kernel_rfl) (by kernel_rfl) (c_furrowref05_Long c _ (by omega) (by omega)) ?_))))))
      rintro _ w43 ⟨rfl, hB44⟩
      replace hb := hb.trans (hB44.mono hs)
      replace hs := Nat.le_trans hs (hB44.size)
      have := longS_len c
      refine L_want (by kernel_rfl) (L_seq (longS c) (longS c) rfl (by kernel_rfl) (by kernel_rfl) ?_ ?_)
      · intro h46
        refine L_pickT (by kernel_rfl) (L_mv (L_want (by kernel_rfl) (L_mv (L_want (by kernel_rfl) (L_mv (L_want (by kernel_rfl) (L_cmp .i64 (toldE c) 0 (toldE c = 0) rfl (cmp_eq (toldE c) 0) (by kernel_rfl) (by kernel_rfl) ?_ ?_)))))))
        · intro h47
          replace h47 : toldE c = 0 := by omega
          refine L_pickT (by kernel_rfl) (L_mv (L_want (by kernel_rfl) (L_mv (L_want (by kernel_rfl) (L_mv (L_want (by kernel_rfl) (L_cmp .i64 (toldE c) 0 (toldE c = 0) rfl (cmp_eq (toldE c) 0) (by kernel_rfl) (by kernel_rfl) ?_ ?_)))))))
          · intro h48
            replace h48 : toldE c = 0 := by omega
            refine L_pickT (by kernel_rfl) (L_mv (L_want (by kernel_rfl) (L_mv (L_want (by kernel_rfl) (L_mv (L_want (by kernel_rfl) (L_seq (letterS s) (letterS s) rfl (by kernel_rfl) (by kernel_rfl) ?_ ?_)))))))
            · intro h49
              refine L_pickT (by kernel_rfl) (L_mv (L_want (by kernel_rfl) (L_mv (L_want (by kernel_rfl) (L_mv (L_want (by kernel_rfl) (L_cmp .i64 (letterE s) (letterE s) (letterE s = letterE s) rfl (cmp_eq (letterE s) (letterE s)) (by kernel_rfl) (by kernel_rfl) ?_ ?_)))))))
              · intro h50
                replace h50 : letterE s = letterE s := by omega
                refine L_pickT (by kernel_rfl) (L_mv (L_want (by kernel_rfl) (L_call 15 [] (by kernel_rfl) (by kernel_rfl) (c_furrowlaw05_awake  _ ) ?_)))
                rintro _ w51 ⟨rfl, hB52⟩
                replace hb := hb.trans (hB52.mono hs)
                replace hs := Nat.le_trans hs (hB52.size)
                refine L_pickT (by kernel_rfl) (L_as (L_nil (thenQ_normal (W_ret ?_))))
                refine end_ret [.tmp 4] [(.bool true)] rfl rfl ⟨by kernel_rfl, trivial⟩ ?_
                have e0 : true = true := by first | rfl | (exfalso; exact absurd (toldE_nil (by assumption)) (by assumption)) | (exfalso; exact absurd (toldE_ok (by assumption)) (by assumption)) | (simp_all; done)
                exact ⟨congrArg Value.bool e0, hb⟩
              · intro h54
                replace h54 : letterE s ≠ letterE s := by omega
                refine L_pickT (by kernel_rfl) (L_mv (L_skip (by kernel_rfl) (L_pickF (by kernel_rfl) (L_as (L_nil (thenQ_normal (W_ret ?_)))))))
                refine end_ret [.tmp 4] [(.bool false)] rfl rfl ⟨by kernel_rfl, trivial⟩ ?_
                have e0 : false = true := by first | rfl | (exfalso; exact absurd (toldE_nil (by assumption)) (by assumption)) | (exfalso; exact absurd (toldE_ok (by assumption)) (by assumption)) | (simp_all; done)
                exact ⟨congrArg Value.bool e0, hb⟩
            · intro h55
              refine L_pickT (by kernel_rfl) (L_mv (L_skip (by kernel_rfl) (L_skip (by kernel_rfl) (L_skip (by kernel_rfl) (L_pickF (by kernel_rfl) (L_mv (L_skip (by kernel_rfl) (L_pickF (by kernel_rfl) (L_as (L_nil (thenQ_normal (W_ret ?_))))))))))))
              refine end_ret [.tmp 4] [(.bool false)] rfl rfl ⟨by kernel_rfl, trivial⟩ ?_
              have e0 : false = true := by first | rfl | (exfalso; exact absurd (toldE_nil (by assumption)) (by assumption)) | (exfalso; exact absurd (toldE_ok (by assumption)) (by assumption)) | (simp_all; done)
              exact ⟨congrArg Value.bool e0, hb⟩
          · intro h56
            replace h56 : toldE c ≠ 0 := by omega
            refine L_pickT (by kernel_rfl) (L_mv (L_skip (by kernel_rfl) (L_skip (by kernel_rfl) (L_skip (by kernel_rfl) (L_pickF (by kernel_rfl) (L_mv (L_skip (by kernel_rfl) (L_skip (by kernel_rfl) (L_skip (by kernel_rfl) (L_pickF (by kernel_rfl) (L_mv (L_skip (by kernel_rfl) (L_pickF (by kernel_rfl) (L_as (L_nil (thenQ_normal (W_ret ?_)))))))))))))))))
            refine end_ret [.tmp 4] [(.bool false)] rfl rfl ⟨by kernel_rfl, trivial⟩ ?_
            have e0 : false = true := by first | rfl | (exfalso; exact absurd (toldE_nil (by assumption)) (by assumption)) | (exfalso; exact absurd (toldE_ok (by assumption)) (by assumption)) | (simp_all; done)
            exact ⟨congrArg Value.bool e0, hb⟩
        · intro h57
          replace h57 : toldE c ≠ 0 := by omega
          refine L_pickT (by kernel_rfl) (L_mv (L_skip (by kernel_rfl) (L_skip (by kernel_rfl) (L_skip (by kernel_rfl) (L_pickF (by kernel_rfl) (L_mv (L_skip (by kernel_rfl) (L_skip (by kernel_rfl) (L_skip (by kernel_rfl) (L_pickF (by kernel_rfl) (L_mv (L_skip (by kernel_rfl) (L_skip (by kernel_rfl) (L_skip (by kernel_rfl) (L_pickF (by kernel_rfl) (L_mv (L_skip (by kernel_rfl) (L_pickF (by kernel_rfl) (L_as (L_nil (thenQ_normal (W_ret ?_))))))))))))))))))))))
          refine end_ret [.tmp 4] [(.bool false)] rfl rfl ⟨by kernel_rfl, trivial⟩ ?_
          have e0 : false = true := by first | rfl | (exfalso; exact absurd (toldE_nil (by assumption)) (by assumption)) | (exfalso; exact absurd (toldE_ok (by assumption)) (by assumption)) | (simp_all; done)
          exact ⟨congrArg Value.bool e0, hb⟩
      · intro h58
        refine L_pickT (by kernel_rfl) (L_mv (L_skip (by kernel_rfl) (L_skip (by kernel_rfl) (L_skip (by kernel_rfl) (L_pickF (by kernel_rfl) (L_mv (L_skip (by kernel_rfl) (L_skip (by kernel_rfl) (L_skip (by kernel_rfl) (L_pickF (by kernel_rfl) (L_mv (L_skip (by kernel_rfl) (L_skip (by kernel_rfl) (L_skip (by kernel_rfl) (L_pickF (by kernel_rfl) (L_mv (L_skip (by kernel_rfl) (L_skip (by kernel_rfl) (L_skip (by kernel_rfl) (L_pickF (by kernel_rfl) (L_mv (L_skip (by kernel_rfl) (L_pickF (by kernel_rfl) (L_as (L_nil (thenQ_normal (W_ret ?_)))))))))))))))))))))))))))
        refine end_ret [.tmp 4] [(.bool false)] rfl rfl ⟨by kernel_rfl, trivial⟩ ?_
        have e0 : false = true := by first | rfl | (exfalso; exact absurd (toldE_nil (by assumption)) (by assumption)) | (exfalso; exact absurd (toldE_ok (by assumption)) (by assumption)) | (simp_all; done)
        exact ⟨congrArg Value.bool e0, hb⟩
    · intro h59
      refine L_mv (L_skip (by kernel_rfl) (L_skip (by kernel_rfl) (L_skip (by kernel_rfl) (L_skip (by kernel_rfl) (L_pickF (by kernel_rfl) (L_mv (L_skip (by kernel_rfl) (L_skip (by kernel_rfl) (L_skip (by kernel_rfl) (L_pickF (by kernel_rfl) (L_mv (L_skip (by kernel_rfl) (L_skip (by kernel_rfl) (L_skip (by kernel_rfl) (L_pickF (by kernel_rfl) (L_mv (L_skip (by kernel_rfl) (L_skip (by kernel_rfl) (L_skip (by kernel_rfl) (L_pickF (by kernel_rfl) (L_mv (L_skip (by kernel_rfl) (L_skip (by kernel_rfl) (L_skip (by kernel_rfl) (L_pickF (by kernel_rfl) (L_mv (L_skip (by kernel_rfl) (L_pickF (by kernel_rfl) (L_as (L_nil (thenQ_normal (W_ret ?_))))))))))))))))))))))))))))))))
      refine end_ret [.tmp 4] [(.bool false)] rfl rfl ⟨by kernel_rfl, trivial⟩ ?_
      have e0 : false = true := by first | rfl | (exfalso; exact absurd (toldE_nil (by assumption)) (by assumption)) | (exfalso; exact absurd (toldE_ok (by assumption)) (by assumption)) | (simp_all; done)
      exact ⟨congrArg Value.bool e0, hb⟩

end Go.Proofs.Ytbknjmjflfkhkaa
