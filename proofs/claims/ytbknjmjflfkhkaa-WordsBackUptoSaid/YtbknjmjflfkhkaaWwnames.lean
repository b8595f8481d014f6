/- Walks, written by my program walk.py out of the specification wnames.py: each theorem says what one function returns and that it leaves memory as it was. -/
import Derived.Test.YtbknjmjflfkhkaaPNames
import Derived.Test.YtbknjmjflfkhkaaWwords
import Derived.Test.YtbknjmjflfkhkaaFKg
import Derived.Test.YtbknjmjflfkhkaaProg
namespace Go.Proofs.Ytbknjmjflfkhkaa
open Go Go.RowKit Go.FK
set_option linter.unusedVariables false

set_option maxHeartbeats 4000000 in
set_option maxRecDepth 100000 in
theorem c_furrowref05_Class (s : List UInt8) (w : World) (hs : s.length ≤ 1073741824) :
    Calls Try.prog 22 #[(S s)] w (Ret fun v w' => v = (.int .u8 ((classF s).1)) ∧ Below w.heap.size w w') := by
  refine enter (args := [(S s)]) Try.func22 rfl (by kernel_rfl : _ = 27) (by kernel_rfl) ?_
  have hb := Below.refl w.heap.size w
  have hs : w.heap.size ≤ w.heap.size := Nat.le_refl _
  refine W_seq (W_region (L_as (L_nil (thenQ_normal (W_seq (W_region (L_mv (L_call 19 [(S s)] (by kernel_rfl) (by kernel_rfl) (c_furrowref05_Loose s _ (by omega)) ?_))))))))
  rintro _ w1 ⟨rfl, hB2⟩
  replace hb := hb.trans (hB2.mono hs)
  replace hs := Nat.le_trans hs (hB2.size)
  refine L_as (L_nil (thenQ_normal (W_seq (W_seq (W_region (L_as (L_nil (thenQ_normal (W_block ?_)))))))))
  refine W_loop (fun m s0 w0 => ∃ (c : Nat), (m = 24 - c) ∧ (s0.ds = []) ∧ (s0.f 3 = (S (looseS s))) ∧ (s0.f 4 = (.int .i64 ((c : Nat) : Int))) ∧ (Below w.heap.size w w0) ∧ (w.heap.size ≤ w0.heap.size) ∧ (1 ≤ c) ∧ (c ≤ 24) ∧ (classFrom s c = classF s)) _ ⟨1, rfl, by kernel_rfl, by kernel_rfl, by kernel_rfl, hb, hs, by omega, by omega, rfl⟩ ?_
  rintro m4 s5 w6 ⟨c, hm, hds, f_3, f_4, hb, hs, i1, i2, i3⟩
  refine W_set 3 _ f_3 (W_set 4 _ f_4 ?_)
  clear f_3 f_4
  refine W_seq (W_seq (W_region (L_mv (L_cmp .i64 ((c : Nat) : Int) ((23 : Nat) : Int) (c ≤ 23) rfl (cmpN_le c 23) (by kernel_rfl) (by kernel_rfl) ?_ ?_))))
  · intro h7
    replace h7 : c ≤ 23 := by omega
    refine L_nil (thenQ_normal (W_true (by kernel_rfl) (W_skip (thenQ_normal (W_seq (W_block (W_seq (W_region (L_mv (L_mv (L_conv (k := .i64) ((c : Nat) : Int) ((c : Nat) : Int) (by kernel_rfl) Try.underlying34 (by kernel_rfl) (wrap_u8 _ (by omega) (by omega)) (L_call 31 [(.int .u8 ((c : Nat) : Int))] (by kernel_rfl) (by kernel_rfl) (c_furrowref05_Short ((c : Nat) : Int) _ (by omega) (by omega)) ?_))))))))))))
    rintro _ w8 ⟨rfl, hB9⟩
    replace hb := hb.trans (hB9.mono hs)
    replace hs := Nat.le_trans hs (hB9.size)
    have := shortS_len ((c : Nat) : Int)
    refine L_call 19 [(S (shortS ((c : Nat) : Int)))] (by kernel_rfl) (by kernel_rfl) (c_furrowref05_Loose (shortS ((c : Nat) : Int)) _ (by omega)) ?_
    rintro _ w11 ⟨rfl, hB12⟩
    replace hb := hb.trans (hB12.mono hs)
    replace hs := Nat.le_trans hs (hB12.size)
    refine L_seq (looseS s) (looseS (shortS ((c : Nat) : Int))) rfl (by kernel_rfl) (by kernel_rfl) ?_ ?_
    · intro h14
      refine L_mv (L_skip (by kernel_rfl) (L_skip (by kernel_rfl) (L_skip (by kernel_rfl) (L_skip (by kernel_rfl) (L_skip (by kernel_rfl) (L_skip (by kernel_rfl) (L_pickT (by kernel_rfl) (L_nil (thenQ_normal (W_true (by kernel_rfl) (W_seq (W_region (L_mv (L_conv (k := .i64) ((c : Nat) : Int) ((c : Nat) : Int) (by kernel_rfl) Try.underlying34 (by kernel_rfl) (wrap_u8 _ (by omega) (by omega)) (L_as (L_nil (thenQ_normal (W_ret (blkQ_ret (thenQ_ret (thenQ_ret (blkQ_ret (thenQ_ret ?_)))))))))))))))))))))))
      refine end_ret [.tmp 2] [(.int .u8 ((c : Nat) : Int))] rfl hds ⟨by kernel_rfl, trivial⟩ ?_
      have e0 : (((c : Nat) : Int) : Int) = (classF s).1 := by first | (rw [← i3, classFrom_end (c := c) (by omega)]; done) | (rw [← i3, classFrom_step (c := c) (by omega)]; simp [alikeB, *]; done)
      exact ⟨congrArg (Value.int .u8) e0, hb⟩
    · intro h15
      refine L_mv (L_want (by kernel_rfl) (L_mv (L_want (by kernel_rfl) (L_mv (L_want (by kernel_rfl) (L_conv (k := .i64) ((c : Nat) : Int) ((c : Nat) : Int) (by kernel_rfl) Try.underlying34 (by kernel_rfl) (wrap_u8 _ (by omega) (by omega)) (L_want (by kernel_rfl) (L_call 32 [(.int .u8 ((c : Nat) : Int))] (by kernel_rfl) (by kernel_rfl) (c_furrowref05_Long ((c : Nat) : Int) _ (by omega) (by omega)) ?_))))))))
      rintro _ w16 ⟨rfl, hB17⟩
      replace hb := hb.trans (hB17.mono hs)
      replace hs := Nat.le_trans hs (hB17.size)
      have := longS_len ((c : Nat) : Int)
      refine L_want (by kernel_rfl) (L_call 19 [(S (longS ((c : Nat) : Int)))] (by kernel_rfl) (by kernel_rfl) (c_furrowref05_Loose (longS ((c : Nat) : Int)) _ (by omega)) ?_)
      rintro _ w19 ⟨rfl, hB20⟩
      replace hb := hb.trans (hB20.mono hs)
      replace hs := Nat.le_trans hs (hB20.size)
      refine L_want (by kernel_rfl) (L_seq (looseS s) (looseS (longS ((c : Nat) : Int))) rfl (by kernel_rfl) (by kernel_rfl) ?_ ?_)
      · intro h22
        refine L_pickF (by kernel_rfl) (L_nil (thenQ_normal (W_true (by kernel_rfl) (W_seq (W_region (L_mv (L_conv (k := .i64) ((c : Nat) : Int) ((c : Nat) : Int) (by kernel_rfl) Try.underlying34 (by kernel_rfl) (wrap_u8 _ (by omega) (by omega)) (L_as (L_nil (thenQ_normal (W_ret (blkQ_ret (thenQ_ret (thenQ_ret (blkQ_ret (thenQ_ret ?_))))))))))))))))
        refine end_ret [.tmp 2] [(.int .u8 ((c : Nat) : Int))] rfl hds ⟨by kernel_rfl, trivial⟩ ?_
        have e0 : (((c : Nat) : Int) : Int) = (classF s).1 := by first | (rw [← i3, classFrom_end (c := c) (by omega)]; done) | (rw [← i3, classFrom_step (c := c) (by omega)]; simp [alikeB, *]; done)
        exact ⟨congrArg (Value.int .u8) e0, hb⟩
      · intro h23
        refine L_pickF (by kernel_rfl) (L_nil (thenQ_normal (W_false (by kernel_rfl) (W_skip (blkQ_normal (thenQ_normal (W_region (L_mv (L_addN c 1 (by omega) (by kernel_rfl) (by kernel_rfl) (L_as (L_nil ?_)))))))))))
        refine thenQ_normal ⟨_, ?_, (c + 1), rfl, hds, by kernel_rfl, by kernel_rfl, hb, hs, ?_, ?_, ?_⟩
        · omega
        · omega
        · omega
        · rw [← i3, classFrom_step (c := c) (by omega)]; simp [alikeB, *]
  · intro h24
    replace h24 : 23 < c := by omega
    refine L_nil (thenQ_normal (W_false (by kernel_rfl) (W_exit (thenQ_exit (thenQ_exit (blkQ_exit (thenQ_normal (W_seq (W_region (L_as (L_nil (thenQ_normal (W_ret ?_)))))))))))))
    refine end_ret [.tmp 2] [(.int .u8 0)] rfl hds ⟨by kernel_rfl, trivial⟩ ?_
    have e0 : (0 : Int) = (classF s).1 := by first | (rw [← i3, classFrom_end (c := c) (by omega)]; done) | (rw [← i3, classFrom_step (c := c) (by omega)]; simp [alikeB, *]; done)
    exact ⟨congrArg (Value.int .u8) e0, hb⟩

set_option maxHeartbeats 4000000 in
set_option maxRecDepth 100000 in
theorem c_furrowref05_Side (s : List UInt8) (w : World) (hs : s.length ≤ 1073741824) :
    Calls Try.prog 24 #[(S s)] w (Ret fun v w' => v = (.tuple #[(.int .u8 ((sideF s).1)), (.int .i64 ((sideF s).2))]) ∧ Below w.heap.size w w') := by
  refine enter (args := [(S s)]) Try.func24 rfl (by kernel_rfl : _ = 15) (by kernel_rfl) ?_
  have hb := Below.refl w.heap.size w
  have hs : w.heap.size ≤ w.heap.size := Nat.le_refl _
  refine W_seq (W_region (L_as (L_as (L_nil (thenQ_normal (W_seq (W_seq (W_region (L_mv (L_call 19 [(S s)] (by kernel_rfl) (by kernel_rfl) (c_furrowref05_Loose s _ (by omega)) ?_))))))))))
  rintro _ w1 ⟨rfl, hB2⟩
  replace hb := hb.trans (hB2.mono hs)
  replace hs := Nat.le_trans hs (hB2.size)
  refine L_nil (thenQ_normal (W_block (W_seq (W_seq (W_region (L_seq (looseS s) ([110] : List UInt8) rfl (by kernel_rfl) (by kernel_rfl) ?_ ?_))))))
  · intro h4
    refine L_as (L_nil (thenQ_normal (W_true (by kernel_rfl) (W_skip (thenQ_normal (W_true (by kernel_rfl) (W_seq (W_region (L_as (L_as (L_nil (thenQ_normal (W_ret (blkQ_ret (thenQ_ret ?_)))))))))))))))
    refine end_ret [.tmp 2, .tmp 3] [(.int .u8 0), (.int .i64 0)] rfl rfl ⟨by kernel_rfl, by kernel_rfl, trivial⟩ ?_
    have hE : ((0 : Int) = (sideF s).1) ∧ ((0 : Int) = (sideF s).2) := ⟨(by rw [sideF_eq]; simp [*]; done), (by rw [sideF_eq]; simp [*]; done)⟩
    exact ⟨tup2 (congrArg (Value.int .u8) hE.1) (congrArg (Value.int .i64) hE.2), hb⟩
  · intro h5
    refine L_as (L_nil (thenQ_normal (W_false (by kernel_rfl) (W_region (L_seq (looseS s) ([110, 111, 110, 101] : List UInt8) rfl (by kernel_rfl) (by kernel_rfl) ?_ ?_)))))
    · intro h6
      refine L_as (L_nil (thenQ_normal (W_true (by kernel_rfl) (W_seq (W_region (L_as (L_as (L_nil (thenQ_normal (W_ret (blkQ_ret (thenQ_ret ?_))))))))))))
      refine end_ret [.tmp 2, .tmp 3] [(.int .u8 0), (.int .i64 0)] rfl rfl ⟨by kernel_rfl, by kernel_rfl, trivial⟩ ?_
      have hE : ((0 : Int) = (sideF s).1) ∧ ((0 : Int) = (sideF s).2) := ⟨(by rw [sideF_eq]; simp [*]; done), (by rw [sideF_eq]; simp [*]; done)⟩
      exact ⟨tup2 (congrArg (Value.int .u8) hE.1) (congrArg (Value.int .i64) hE.2), hb⟩
    · intro h7
      refine L_as (L_nil (thenQ_normal (W_false (by kernel_rfl) (W_seq (W_seq (W_region (L_seq (looseS s) ([111] : List UInt8) rfl (by kernel_rfl) (by kernel_rfl) ?_ ?_)))))))
      · intro h8
        refine L_as (L_nil (thenQ_normal (W_true (by kernel_rfl) (W_skip (thenQ_normal (W_true (by kernel_rfl) (W_seq (W_region (L_as (L_as (L_nil (thenQ_normal (W_ret (blkQ_ret (thenQ_ret ?_)))))))))))))))
        refine end_ret [.tmp 2, .tmp 3] [(.int .u8 1), (.int .i64 0)] rfl rfl ⟨by kernel_rfl, by kernel_rfl, trivial⟩ ?_
        have hE : ((1 : Int) = (sideF s).1) ∧ ((0 : Int) = (sideF s).2) := ⟨(by rw [sideF_eq]; simp [*]; done), (by rw [sideF_eq]; simp [*]; done)⟩
        exact ⟨tup2 (congrArg (Value.int .u8) hE.1) (congrArg (Value.int .i64) hE.2), hb⟩
      · intro h9
        refine L_as (L_nil (thenQ_normal (W_false (by kernel_rfl) (W_region (L_seq (looseS s) ([111, 112, 101, 110] : List UInt8) rfl (by kernel_rfl) (by kernel_rfl) ?_ ?_)))))
        · intro h10
          refine L_as (L_nil (thenQ_normal (W_true (by kernel_rfl) (W_seq (W_region (L_as (L_as (L_nil (thenQ_normal (W_ret (blkQ_ret (thenQ_ret ?_))))))))))))
          refine end_ret [.tmp 2, .tmp 3] [(.int .u8 1), (.int .i64 0)] rfl rfl ⟨by kernel_rfl, by kernel_rfl, trivial⟩ ?_
          have hE : ((1 : Int) = (sideF s).1) ∧ ((0 : Int) = (sideF s).2) := ⟨(by rw [sideF_eq]; simp [*]; done), (by rw [sideF_eq]; simp [*]; done)⟩
          exact ⟨tup2 (congrArg (Value.int .u8) hE.1) (congrArg (Value.int .i64) hE.2), hb⟩
        · intro h11
          refine L_as (L_nil (thenQ_normal (W_false (by kernel_rfl) (W_seq (W_seq (W_region (L_seq (looseS s) ([99] : List UInt8) rfl (by kernel_rfl) (by kernel_rfl) ?_ ?_)))))))
          · intro h12
            refine L_as (L_nil (thenQ_normal (W_true (by kernel_rfl) (W_skip (thenQ_normal (W_true (by kernel_rfl) (W_seq (W_region (L_as (L_as (L_nil (thenQ_normal (W_ret (blkQ_ret (thenQ_ret ?_)))))))))))))))
            refine end_ret [.tmp 2, .tmp 3] [(.int .u8 2), (.int .i64 0)] rfl rfl ⟨by kernel_rfl, by kernel_rfl, trivial⟩ ?_
            have hE : ((2 : Int) = (sideF s).1) ∧ ((0 : Int) = (sideF s).2) := ⟨(by rw [sideF_eq]; simp [*]; done), (by rw [sideF_eq]; simp [*]; done)⟩
            exact ⟨tup2 (congrArg (Value.int .u8) hE.1) (congrArg (Value.int .i64) hE.2), hb⟩
          · intro h13
            refine L_as (L_nil (thenQ_normal (W_false (by kernel_rfl) (W_region (L_seq (looseS s) ([99, 108, 111, 115, 101] : List UInt8) rfl (by kernel_rfl) (by kernel_rfl) ?_ ?_)))))
            · intro h14
              refine L_as (L_nil (thenQ_normal (W_true (by kernel_rfl) (W_seq (W_region (L_as (L_as (L_nil (thenQ_normal (W_ret (blkQ_ret (thenQ_ret ?_))))))))))))
              refine end_ret [.tmp 2, .tmp 3] [(.int .u8 2), (.int .i64 0)] rfl rfl ⟨by kernel_rfl, by kernel_rfl, trivial⟩ ?_
              have hE : ((2 : Int) = (sideF s).1) ∧ ((0 : Int) = (sideF s).2) := ⟨(by rw [sideF_eq]; simp [*]; done), (by rw [sideF_eq]; simp [*]; done)⟩
              exact ⟨tup2 (congrArg (Value.int .u8) hE.1) (congrArg (Value.int .i64) hE.2), hb⟩
            · intro h15
              refine L_as (L_nil (thenQ_normal (W_false (by kernel_rfl) (W_skip (blkQ_normal (thenQ_normal (W_seq (W_region (L_as (L_as (L_nil (thenQ_normal (W_ret ?_)))))))))))))
              refine end_ret [.tmp 2, .tmp 3] [(.int .u8 0), (.int .i64 51)] rfl rfl ⟨by kernel_rfl, by kernel_rfl, trivial⟩ ?_
              have hE : ((0 : Int) = (sideF s).1) ∧ ((51 : Int) = (sideF s).2) := ⟨(by rw [sideF_eq]; simp [*]; done), (by rw [sideF_eq]; simp [*]; done)⟩
              exact ⟨tup2 (congrArg (Value.int .u8) hE.1) (congrArg (Value.int .i64) hE.2), hb⟩

set_option maxHeartbeats 4000000 in
set_option maxRecDepth 100000 in
theorem c_furrowlaw05_WordsNames (s : List UInt8) (w : World) (hs : s.length ≤ 1073741824) :
    Calls Try.prog 6 #[(S s)] w (Ret fun v w' => v = (.bool true) ∧ Below w.heap.size w w') := by
  refine enter (args := [(S s)]) Try.func6 rfl (by kernel_rfl : _ = 56) (by kernel_rfl) ?_
  have hb := Below.refl w.heap.size w
  have hs : w.heap.size ≤ w.heap.size := Nat.le_refl _
  have hcc := classF_cases s
  refine W_seq (W_region (L_as (L_nil (thenQ_normal (W_seq (W_region (L_mv (L_call 21 [(S s)] (by kernel_rfl) (by kernel_rfl) (c_words_Class s _ (by omega)) ?_))))))))
  rintro _ w1 ⟨rfl, hB2⟩
  replace hb := hb.trans (hB2.mono hs)
  replace hs := Nat.le_trans hs (hB2.size)
  refine L_mv (L_run (.int .u8 ((classF s).1)) (by kernel_rfl) (by kernel_rfl) (L_run (.int .i64 ((classF s).2)) (by kernel_rfl) (by kernel_rfl) (L_as (L_as (L_nil (thenQ_normal (W_seq (W_region (L_mv (L_call 22 [(S s)] (by kernel_rfl) (by kernel_rfl) (c_furrowref05_Class s _ (by omega)) ?_))))))))))
  rintro _ w4 ⟨rfl, hB5⟩
  replace hb := hb.trans (hB5.mono hs)
  replace hs := Nat.le_trans hs (hB5.size)
  refine L_as (L_nil (thenQ_normal (W_seq (W_region (L_mv (L_call 23 [(S s)] (by kernel_rfl) (by kernel_rfl) (c_words_Side s _ (by omega)) ?_))))))
  rintro _ w7 ⟨rfl, hB8⟩
  replace hb := hb.trans (hB8.mono hs)
  replace hs := Nat.le_trans hs (hB8.size)
  refine L_mv (L_run (.int .u8 ((sideF s).1)) (by kernel_rfl) (by kernel_rfl) (L_run (.int .i64 ((sideF s).2)) (by kernel_rfl) (by kernel_rfl) (L_as (L_as (L_nil (thenQ_normal (W_seq (W_region (L_mv (L_call 24 [(S s)] (by kernel_rfl) (by kernel_rfl) (c_furrowref05_Side s _ (by omega)) ?_))))))))))
  rintro _ w10 ⟨rfl, hB11⟩
  replace hb := hb.trans (hB11.mono hs)
  replace hs := Nat.le_trans hs (hB11.size)
  refine L_mv (L_run (.int .u8 ((sideF s).1)) (by kernel_rfl) (by kernel_rfl) (L_run (.int .i64 ((sideF s).2)) (by kernel_rfl) (by kernel_rfl) (L_as (L_as (L_nil (thenQ_normal (W_seq (W_seq (W_region (L_mv (L_mv (L_cmp .u8 ((sideF s).1) ((sideF s).1) ((sideF s).1 ≠ (sideF s).1) rfl (cmp_ne ((sideF s).1) ((sideF s).1)) (by kernel_rfl) (by kernel_rfl) ?_ ?_))))))))))))
  · intro h13
    replace h13 : (sideF s).1 ≠ (sideF s).1 := by omega
    refine L_mv (L_skip (by kernel_rfl) (L_skip (by kernel_rfl) (L_skip (by kernel_rfl) (L_pickT (by kernel_rfl) (L_mv (L_skip (by kernel_rfl) (L_skip (by kernel_rfl) (L_skip (by kernel_rfl) (L_pickT (by kernel_rfl) (L_mv (L_skip (by kernel_rfl) (L_skip (by kernel_rfl) (L_skip (by kernel_rfl) (L_skip (by kernel_rfl) (L_skip (by kernel_rfl) (L_pickT (by kernel_rfl) (L_nil (thenQ_normal (W_true (by kernel_rfl) (W_seq (W_region (L_as (L_nil (thenQ_normal (W_ret (thenQ_ret ?_))))))))))))))))))))))))))
    refine end_ret [.tmp 2] [(.bool false)] rfl rfl ⟨by kernel_rfl, trivial⟩ ?_
    have e0 : false = true := by first | rfl | (exfalso; omega) | (simp_all; done)
    exact ⟨congrArg Value.bool e0, hb⟩
  · intro h14
    replace h14 : (sideF s).1 = (sideF s).1 := by omega
    refine L_mv (L_want (by kernel_rfl) (L_mv (L_want (by kernel_rfl) (L_mv (L_want (by kernel_rfl) (L_cmp .i64 ((sideF s).2) ((sideF s).2) ((sideF s).2 ≠ (sideF s).2) rfl (cmp_ne ((sideF s).2) ((sideF s).2)) (by kernel_rfl) (by kernel_rfl) ?_ ?_))))))
    · intro h15
      replace h15 : (sideF s).2 ≠ (sideF s).2 := by omega
      refine L_pickF (by kernel_rfl) (L_mv (L_skip (by kernel_rfl) (L_skip (by kernel_rfl) (L_skip (by kernel_rfl) (L_pickT (by kernel_rfl) (L_mv (L_skip (by kernel_rfl) (L_skip (by kernel_rfl) (L_skip (by kernel_rfl) (L_skip (by kernel_rfl) (L_skip (by kernel_rfl) (L_pickT (by kernel_rfl) (L_nil (thenQ_normal (W_true (by kernel_rfl) (W_seq (W_region (L_as (L_nil (thenQ_normal (W_ret (thenQ_ret ?_))))))))))))))))))))))
      refine end_ret [.tmp 2] [(.bool false)] rfl rfl ⟨by kernel_rfl, trivial⟩ ?_
      have e0 : false = true := by first | rfl | (exfalso; omega) | (simp_all; done)
      exact ⟨congrArg Value.bool e0, hb⟩
    · intro h16
      replace h16 : (sideF s).2 = (sideF s).2 := by omega
      refine L_pickF (by kernel_rfl) (L_mv (L_want (by kernel_rfl) (L_mv (L_want (by kernel_rfl) (L_mv (L_want (by kernel_rfl) (L_cmp .u8 ((classF s).1) ((classF s).1) ((classF s).1 ≠ (classF s).1) rfl (cmp_ne ((classF s).1) ((classF s).1)) (by kernel_rfl) (by kernel_rfl) ?_ ?_)))))))
      · intro h17
        replace h17 : (classF s).1 ≠ (classF s).1 := by omega
        refine L_pickF (by kernel_rfl) (L_mv (L_skip (by kernel_rfl) (L_skip (by kernel_rfl) (L_skip (by kernel_rfl) (L_skip (by kernel_rfl) (L_skip (by kernel_rfl) (L_pickT (by kernel_rfl) (L_nil (thenQ_normal (W_true (by kernel_rfl) (W_seq (W_region (L_as (L_nil (thenQ_normal (W_ret (thenQ_ret ?_)))))))))))))))))
        refine end_ret [.tmp 2] [(.bool false)] rfl rfl ⟨by kernel_rfl, trivial⟩ ?_
        have e0 : false = true := by first | rfl | (exfalso; omega) | (simp_all; done)
        exact ⟨congrArg Value.bool e0, hb⟩
      · intro h18
        replace h18 : (classF s).1 = (classF s).1 := by omega
        refine L_pickF (by kernel_rfl) (L_mv (L_want (by kernel_rfl) (L_mv (L_want (by kernel_rfl) (L_cmp .i64 ((classF s).2) 0 ((classF s).2 = 0) rfl (cmp_eq ((classF s).2) 0) (by kernel_rfl) (by kernel_rfl) ?_ ?_)))))
        · intro h19
          replace h19 : (classF s).2 = 0 := by omega
          refine L_want (by kernel_rfl) (L_mv (L_want (by kernel_rfl) (L_cmp .u8 ((classF s).1) 0 ((classF s).1 ≠ 0) rfl (cmp_ne ((classF s).1) 0) (by kernel_rfl) (by kernel_rfl) ?_ ?_)))
          · intro h20
            replace h20 : (classF s).1 ≠ 0 := by omega
            refine L_want (by kernel_rfl) (L_run (.bool false) (by kernel_rfl) (by kernel_rfl) (L_pickF (by kernel_rfl) (L_nil (thenQ_normal (W_false (by kernel_rfl) (W_skip (thenQ_normal (W_seq (W_region (L_mv (L_cmp .i64 ((classF s).2) 0 ((classF s).2 = 0) rfl (cmp_eq ((classF s).2) 0) (by kernel_rfl) (by kernel_rfl) ?_ ?_)))))))))))
            · intro h21
              replace h21 : (classF s).2 = 0 := by omega
              refine L_mv (L_skip (by kernel_rfl) (L_skip (by kernel_rfl) (L_pickT (by kernel_rfl) (L_mv (L_want (by kernel_rfl) (L_call 15 [] (by kernel_rfl) (by kernel_rfl) (c_furrowlaw05_awake  _ ) ?_))))))
              rintro _ w22 ⟨rfl, hB23⟩
              replace hb := hb.trans (hB23.mono hs)
              replace hs := Nat.le_trans hs (hB23.size)
              refine L_pickT (by kernel_rfl) (L_as (L_nil (thenQ_normal (W_ret ?_))))
              refine end_ret [.tmp 2] [(.bool true)] rfl rfl ⟨by kernel_rfl, trivial⟩ ?_
              have e0 : true = true := by first | rfl | (exfalso; omega) | (simp_all; done)
              exact ⟨congrArg Value.bool e0, hb⟩
            · intro h25
              replace h25 : (classF s).2 ≠ 0 := by omega
              refine L_mv (L_want (by kernel_rfl) (L_mv (L_want (by kernel_rfl) (L_cmp .i64 ((classF s).2) 50 ((classF s).2 = 50) rfl (cmp_eq ((classF s).2) 50) (by kernel_rfl) (by kernel_rfl) ?_ ?_))))
              · intro h26
                replace h26 : (classF s).2 = 50 := by omega
                refine L_pickF (by kernel_rfl) (L_mv (L_want (by kernel_rfl) (L_call 15 [] (by kernel_rfl) (by kernel_rfl) (c_furrowlaw05_awake  _ ) ?_)))
                rintro _ w27 ⟨rfl, hB28⟩
                replace hb := hb.trans (hB28.mono hs)
                replace hs := Nat.le_trans hs (hB28.size)
                refine L_pickT (by kernel_rfl) (L_as (L_nil (thenQ_normal (W_ret ?_))))
                refine end_ret [.tmp 2] [(.bool true)] rfl rfl ⟨by kernel_rfl, trivial⟩ ?_
                have e0 : true = true := by first | rfl | (exfalso; omega) | (simp_all; done)
                exact ⟨congrArg Value.bool e0, hb⟩
              · intro h30
                replace h30 : (classF s).2 ≠ 50 := by omega
                refine L_pickF (by kernel_rfl) (L_mv (L_skip (by kernel_rfl) (L_pickF (by kernel_rfl) (L_as (L_nil (thenQ_normal (W_ret ?_)))))))
                refine end_ret [.tmp 2] [(.bool false)] rfl rfl ⟨by kernel_rfl, trivial⟩ ?_
                have e0 : false = true := by first | rfl | (exfalso; omega) | (simp_all; done)
                exact ⟨congrArg Value.bool e0, hb⟩
          · intro h31
            replace h31 : (classF s).1 = 0 := by omega
            refine L_want (by kernel_rfl) (L_run (.bool true) (by kernel_rfl) (by kernel_rfl) (L_pickF (by kernel_rfl) (L_nil (thenQ_normal (W_true (by kernel_rfl) (W_seq (W_region (L_as (L_nil (thenQ_normal (W_ret (thenQ_ret ?_))))))))))))
            refine end_ret [.tmp 2] [(.bool false)] rfl rfl ⟨by kernel_rfl, trivial⟩ ?_
            have e0 : false = true := by first | rfl | (exfalso; omega) | (simp_all; done)
            exact ⟨congrArg Value.bool e0, hb⟩
        · intro h32
          replace h32 : (classF s).2 ≠ 0 := by omega
          refine L_want (by kernel_rfl) (L_mv (L_want (by kernel_rfl) (L_cmp .u8 ((classF s).1) 0 ((classF s).1 ≠ 0) rfl (cmp_ne ((classF s).1) 0) (by kernel_rfl) (by kernel_rfl) ?_ ?_)))
          · intro h33
            replace h33 : (classF s).1 ≠ 0 := by omega
            refine L_want (by kernel_rfl) (L_run (.bool true) (by kernel_rfl) (by kernel_rfl) (L_pickF (by kernel_rfl) (L_nil (thenQ_normal (W_true (by kernel_rfl) (W_seq (W_region (L_as (L_nil (thenQ_normal (W_ret (thenQ_ret ?_))))))))))))
            refine end_ret [.tmp 2] [(.bool false)] rfl rfl ⟨by kernel_rfl, trivial⟩ ?_
            have e0 : false = true := by first | rfl | (exfalso; omega) | (simp_all; done)
            exact ⟨congrArg Value.bool e0, hb⟩
          · intro h34
            replace h34 : (classF s).1 = 0 := by omega
            refine L_want (by kernel_rfl) (L_run (.bool false) (by kernel_rfl) (by kernel_rfl) (L_pickF (by kernel_rfl) (L_nil (thenQ_normal (W_false (by kernel_rfl) (W_skip (thenQ_normal (W_seq (W_region (L_mv (L_cmp .i64 ((classF s).2) 0 ((classF s).2 = 0) rfl (cmp_eq ((classF s).2) 0) (by kernel_rfl) (by kernel_rfl) ?_ ?_)))))))))))
            · intro h35
              replace h35 : (classF s).2 = 0 := by omega
              refine L_mv (L_skip (by kernel_rfl) (L_skip (by kernel_rfl) (L_pickT (by kernel_rfl) (L_mv (L_want (by kernel_rfl) (L_call 15 [] (by kernel_rfl) (by kernel_rfl) (c_furrowlaw05_awake  _ ) ?_))))))
              rintro _ w36 ⟨rfl, hB37⟩
              replace hb := hb.trans (hB37.mono hs)
              replace hs := Nat.le_trans hs (hB37.size)
              refine L_pickT (by kernel_rfl) (L_as (L_nil (thenQ_normal (W_ret ?_))))
              refine end_ret [.tmp 2] [(.bool true)] rfl rfl ⟨by kernel_rfl, trivial⟩ ?_
              have e0 : true = true := by first | rfl | (exfalso; omega) | (simp_all; done)
              exact ⟨congrArg Value.bool e0, hb⟩
            · intro h39
              replace h39 : (classF s).2 ≠ 0 := by omega
              refine L_mv (L_want (by kernel_rfl) (L_mv (L_want (by kernel_rfl) (L_cmp .i64 ((classF s).2) 50 ((classF s).2 = 50) rfl (cmp_eq ((classF s).2) 50) (by kernel_rfl) (by kernel_rfl) ?_ ?_))))
              · intro h40
                replace h40 : (classF s).2 = 50 := by omega
                refine L_pickF (by kernel_rfl) (L_mv (L_want (by kernel_rfl) (L_call 15 [] (by kernel_rfl) (by kernel_rfl) (c_furrowlaw05_awake  _ ) ?_)))
                rintro _ w41 ⟨rfl, hB42⟩
                replace hb := hb.trans (hB42.mono hs)
                replace hs := Nat.le_trans hs (hB42.size)
                refine L_pickT (by kernel_rfl) (L_as (L_nil (thenQ_normal (W_ret ?_))))
                refine end_ret [.tmp 2] [(.bool true)] rfl rfl ⟨by kernel_rfl, trivial⟩ ?_
                have e0 : true = true := by first | rfl | (exfalso; omega) | (simp_all; done)
                exact ⟨congrArg Value.bool e0, hb⟩
              · intro h44
                replace h44 : (classF s).2 ≠ 50 := by omega
                refine L_pickF (by kernel_rfl) (L_mv (L_skip (by kernel_rfl) (L_pickF (by kernel_rfl) (L_as (L_nil (thenQ_normal (W_ret ?_)))))))
                refine end_ret [.tmp 2] [(.bool false)] rfl rfl ⟨by kernel_rfl, trivial⟩ ?_
                have e0 : false = true := by first | rfl | (exfalso; omega) | (simp_all; done)
                exact ⟨congrArg Value.bool e0, hb⟩

end Go.Proofs.Ytbknjmjflfkhkaa
