/- Walks, written by my program walk.py out of the specification wknown.py: each theorem says what one function returns and that it leaves memory as it was. -/
import Derived.Test.YtbknjmjflfkhkaaPList
import Derived.Test.YtbknjmjflfkhkaaWwords
import Derived.Test.YtbknjmjflfkhkaaWwnames
import Derived.Test.YtbknjmjflfkhkaaWweach
import Derived.Test.YtbknjmjflfkhkaaWwlist
import Derived.Test.YtbknjmjflfkhkaaFKj
import Derived.Test.YtbknjmjflfkhkaaProg
namespace Go.Proofs.Ytbknjmjflfkhkaa
open Go Go.RowKit Go.FK
set_option linter.unusedVariables false


set_option maxHeartbeats 4000000 in
set_option maxRecDepth 100000 in
theorem c_furrowlaw05_WordsKnown (w : World) :
    Calls Try.prog 11 #[] w (Ret fun v w' => v = (.bool true) ∧ Below w.heap.size w w') := by
  refine enter (args := []) Try.func11 rfl (by kernel_rfl : _ = 118) (by kernel_rfl) ?_
  have hb := Below.refl w.heap.size w
  have hs : w.heap.size ≤ w.heap.size := Nat.le_refl _
  refine W_seq (W_region (L_as (L_nil (thenQ_normal (W_seq (W_region (L_call 33 [(S ([76, 32, 88, 32, 82] : List UInt8))] (by kernel_rfl) (by kernel_rfl) (calls_as (c_words_Classes ([76, 32, 88, 32, 82] : List UInt8) _ (by first | omega | (simp; done) | decide)) (by kernel_rfl : _ = fun v w' => ∃ (q0 : Value), v = (.tuple #[q0, (.int .i64 2), (.int .i64 50)]) ∧ Row w' w.heap.size 34 1 encU8 q0 ([] : List Int) ∧ Below w.heap.size w w')) ?_)))))))
  rintro _ w2 ⟨q1, rfl, r_q1, hB3⟩
  replace r_q1 := r_q1.base hs
  replace hb := hb.trans (hB3.mono hs)
  replace hs := Nat.le_trans hs (hB3.size)
  refine L_mv (L_run q1 (by kernel_rfl) (by kernel_rfl) (L_run (.int .i64 2) (by kernel_rfl) (by kernel_rfl) (L_run (.int .i64 50) (by kernel_rfl) (by kernel_rfl) (L_as (L_as (L_as (L_nil (thenQ_normal (W_seq (W_region (L_call 33 [(S ([76, 32, 32, 82, 95] : List UInt8))] (by kernel_rfl) (by kernel_rfl) (calls_as (c_words_Classes ([76, 32, 32, 82, 95] : List UInt8) _ (by first | omega | (simp; done) | decide)) (by kernel_rfl : _ = fun v w' => ∃ (q0 : Value), v = (.tuple #[q0, (.int .i64 0), (.int .i64 0)]) ∧ Row w' w2.heap.size 34 1 encU8 q0 ([1, 2] : List (Int)) ∧ Below w2.heap.size w2 w')) ?_)))))))))))
  rintro _ w6 ⟨q5, rfl, r_q5, hB7⟩
  replace r_q5 := r_q5.base hs
  replace hb := hb.trans (hB7.mono hs)
  replace hs := Nat.le_trans hs (hB7.size)
  replace r_q1 := r_q1.below hB7
  refine L_mv (L_run q5 (by kernel_rfl) (by kernel_rfl) (L_run (.int .i64 0) (by kernel_rfl) (by kernel_rfl) (L_run (.int .i64 0) (by kernel_rfl) (by kernel_rfl) (L_as (L_as (L_as (L_nil (thenQ_normal (W_seq (W_region (L_new (fun b => .slice (some ⟨b, 0, none⟩) 2 2) (.cells [(.int .u8 1), (.int .u8 23)].toArray 34 (0, 0)) (by kernel_rfl) (by kernel_rfl) ?_)))))))))))
  intro b9 w10 hN11
  have g_b9 : w.heap.size ≤ b9 := by rw [hN11.num]; exact hs
  replace hb := hb.trans (hN11.below.mono hs)
  replace hs := Nat.le_trans hs (hN11.below.size)
  replace r_q1 := r_q1.below hN11.below
  replace r_q5 := r_q5.below hN11.below
  have r_b9 : Row w10 w.heap.size 34 1 encU8 (.slice (some ⟨b9, 0, none⟩) 2 2) ([1, 23] : List (Int)) := Row.made ([1, 23] : List (Int)) hN11 g_b9 rfl rfl (by first | decide | (simp; done))
  refine L_call 36 [(.slice (some ⟨b9, 0, none⟩) 2 2)] (by kernel_rfl) (by kernel_rfl) (calls_as (c_words_Write (.slice (some ⟨b9, 0, none⟩) 2 2) ([1, 23] : List (Int)) _ r_b9.rd (by first | omega | (simp; done) | decide) (by first | omega | (simp; done) | decide)) (by kernel_rfl : _ = fun v w' => v = (.tuple #[(S ([76, 32, 80, 68, 73] : List UInt8)), (.int .i64 0)]) ∧ Below w10.heap.size w10 w')) ?_
  rintro _ w12 ⟨rfl, hB13⟩
  replace hb := hb.trans (hB13.mono hs)
  replace hs := Nat.le_trans hs (hB13.size)
  replace r_q1 := r_q1.below hB13
  replace r_q5 := r_q5.below hB13
  replace r_b9 := r_b9.below hB13
  refine L_mv (L_run (S ([76, 32, 80, 68, 73] : List UInt8)) (by kernel_rfl) (by kernel_rfl) (L_run (.int .i64 0) (by kernel_rfl) (by kernel_rfl) (L_as (L_as (L_nil (thenQ_normal (W_seq (W_region (L_new (fun b => .slice (some ⟨b, 0, none⟩) 1 1) (.cells [(.int .u8 24)].toArray 34 (0, 0)) (by kernel_rfl) (by kernel_rfl) ?_)))))))))
  intro b15 w16 hN17
  have g_b15 : w.heap.size ≤ b15 := by rw [hN17.num]; exact hs
  replace hb := hb.trans (hN17.below.mono hs)
  replace hs := Nat.le_trans hs (hN17.below.size)
  replace r_q1 := r_q1.below hN17.below
  replace r_q5 := r_q5.below hN17.below
  replace r_b9 := r_b9.below hN17.below
  have r_b15 : Row w16 w.heap.size 34 1 encU8 (.slice (some ⟨b15, 0, none⟩) 1 1) ([24] : List (Int)) := Row.made ([24] : List (Int)) hN17 g_b15 rfl rfl (by first | decide | (simp; done))
  refine L_call 36 [(.slice (some ⟨b15, 0, none⟩) 1 1)] (by kernel_rfl) (by kernel_rfl) (calls_as (c_words_Write (.slice (some ⟨b15, 0, none⟩) 1 1) ([24] : List (Int)) _ r_b15.rd (by first | omega | (simp; done) | decide) (by first | omega | (simp; done) | decide)) (by kernel_rfl : _ = fun v w' => v = (.tuple #[(S ([] : List UInt8)), (.int .i64 2)]) ∧ Below w16.heap.size w16 w')) ?_
  rintro _ w18 ⟨rfl, hB19⟩
  replace hb := hb.trans (hB19.mono hs)
  replace hs := Nat.le_trans hs (hB19.size)
  replace r_q1 := r_q1.below hB19
  replace r_q5 := r_q5.below hB19
  replace r_b9 := r_b9.below hB19
  replace r_b15 := r_b15.below hB19
  refine L_mv (L_run (S ([] : List UInt8)) (by kernel_rfl) (by kernel_rfl) (L_run (.int .i64 2) (by kernel_rfl) (by kernel_rfl) (L_as (L_as (L_nil (thenQ_normal (W_seq (W_region (L_call 21 [(S ([] : List UInt8))] (by kernel_rfl) (by kernel_rfl) (calls_as (c_words_Class ([] : List UInt8) _ (by first | omega | (simp; done) | decide)) (by kernel_rfl : _ = fun v w' => v = (.tuple #[(.int .u8 0), (.int .i64 50)]) ∧ Below w18.heap.size w18 w')) ?_)))))))))
  rintro _ w21 ⟨rfl, hB22⟩
  replace hb := hb.trans (hB22.mono hs)
  replace hs := Nat.le_trans hs (hB22.size)
  replace r_q1 := r_q1.below hB22
  replace r_q5 := r_q5.below hB22
  replace r_b9 := r_b9.below hB22
  replace r_b15 := r_b15.below hB22
  refine L_mv (L_run (.int .u8 0) (by kernel_rfl) (by kernel_rfl) (L_run (.int .i64 50) (by kernel_rfl) (by kernel_rfl) (L_as (L_as (L_nil (thenQ_normal (W_seq (W_region (L_call 23 [(S ([120] : List UInt8))] (by kernel_rfl) (by kernel_rfl) (calls_as (c_words_Side ([120] : List UInt8) _ (by first | omega | (simp; done) | decide)) (by kernel_rfl : _ = fun v w' => v = (.tuple #[(.int .u8 0), (.int .i64 51)]) ∧ Below w21.heap.size w21 w')) ?_)))))))))
  rintro _ w24 ⟨rfl, hB25⟩
  replace hb := hb.trans (hB25.mono hs)
  replace hs := Nat.le_trans hs (hB25.size)
  replace r_q1 := r_q1.below hB25
  replace r_q5 := r_q5.below hB25
  replace r_b9 := r_b9.below hB25
  replace r_b15 := r_b15.below hB25
  refine L_mv (L_run (.int .u8 0) (by kernel_rfl) (by kernel_rfl) (L_run (.int .i64 51) (by kernel_rfl) (by kernel_rfl) (L_as (L_as (L_nil (thenQ_normal (W_seq (W_region (L_call 29 [(.int .u8 0)] (by kernel_rfl) (by kernel_rfl) (calls_as (c_words_Letter 0 _ ) (by kernel_rfl : _ = fun v w' => v = (.tuple #[(S ([110] : List UInt8)), (.int .i64 0)]) ∧ Below w24.heap.size w24 w')) ?_)))))))))
  rintro _ w27 ⟨rfl, hB28⟩
  replace hb := hb.trans (hB28.mono hs)
  replace hs := Nat.le_trans hs (hB28.size)
  replace r_q1 := r_q1.below hB28
  replace r_q5 := r_q5.below hB28
  replace r_b9 := r_b9.below hB28
  replace r_b15 := r_b15.below hB28
  have := letterS_len 0
  refine L_mv (L_run (S ([110] : List UInt8)) (by kernel_rfl) (by kernel_rfl) (L_run (.int .i64 0) (by kernel_rfl) (by kernel_rfl) (L_as (L_as (L_nil (thenQ_normal (W_seq (W_seq (W_region (L_mv (L_len 49 34 (([] : List Int)).length q1 rfl Try.underlying49 (r_q1.rd).len (by kernel_rfl) (L_run (.bool false) (by kernel_rfl) (by kernel_rfl) (L_mv (L_want (by kernel_rfl) (L_mv (L_want (by kernel_rfl) (L_run (.bool false) (by kernel_rfl) (by kernel_rfl) (L_pickF (by kernel_rfl) (L_mv (L_want (by kernel_rfl) (L_mv (L_want (by kernel_rfl) (L_run (.bool false) (by kernel_rfl) (by kernel_rfl) (L_pickF (by kernel_rfl) (L_mv (L_want (by kernel_rfl) (L_mv (L_want (by kernel_rfl) (L_new (fun b => .slice (some ⟨b, 0, none⟩) 2 2) (.cells [(.int .u8 1), (.int .u8 2)].toArray 34 (0, 0)) (by kernel_rfl) (by kernel_rfl) ?_)))))))))))))))))))))))))))))
  intro b30 w31 hN32
  have g_b30 : w.heap.size ≤ b30 := by rw [hN32.num]; exact hs
  replace hb := hb.trans (hN32.below.mono hs)
  replace hs := Nat.le_trans hs (hN32.below.size)
  replace r_q1 := r_q1.below hN32.below
  replace r_q5 := r_q5.below hN32.below
  replace r_b9 := r_b9.below hN32.below
  replace r_b15 := r_b15.below hN32.below
  have r_b30 : Row w31 w.heap.size 34 1 encU8 (.slice (some ⟨b30, 0, none⟩) 2 2) ([1, 2] : List (Int)) := Row.made ([1, 2] : List (Int)) hN32 g_b30 rfl rfl (by first | decide | (simp; done))
  refine L_want (by kernel_rfl) (L_call 35 [q5, (.slice (some ⟨b30, 0, none⟩) 2 2)] (by kernel_rfl) (by kernel_rfl) (calls_as (c_furrowlaw05_same q5 ([1, 2] : List (Int)) (.slice (some ⟨b30, 0, none⟩) 2 2) ([1, 2] : List (Int)) _ r_q5.rd r_b30.rd (by first | omega | (simp; done) | decide)) (by kernel_rfl : _ = fun v w' => v = (.bool true) ∧ Below w31.heap.size w31 w')) ?_)
  rintro _ w33 ⟨rfl, hB34⟩
  replace hb := hb.trans (hB34.mono hs)
  replace hs := Nat.le_trans hs (hB34.size)
  replace r_q1 := r_q1.below hB34
  replace r_q5 := r_q5.below hB34
  replace r_b9 := r_b9.below hB34
  replace r_b15 := r_b15.below hB34
  replace r_b30 := r_b30.below hB34
  refine L_want (by kernel_rfl) (L_not true (by kernel_rfl) (L_pickF (by kernel_rfl) (L_mv (L_want (by kernel_rfl) (L_mv (L_want (by kernel_rfl) (L_run (.bool false) (by kernel_rfl) (by kernel_rfl) (L_pickF (by kernel_rfl) (L_mv (L_want (by kernel_rfl) (L_mv (L_want (by kernel_rfl) (L_sneF ([76, 32, 80, 68, 73] : List UInt8) ([76, 32, 80, 68, 73] : List UInt8) (by rfl) (by kernel_rfl) (by kernel_rfl) (L_pickF (by kernel_rfl) (L_mv (L_want (by kernel_rfl) (L_mv (L_want (by kernel_rfl) (L_run (.bool false) (by kernel_rfl) (by kernel_rfl) (L_pickF (by kernel_rfl) (L_mv (L_want (by kernel_rfl) (L_mv (L_want (by kernel_rfl) (L_run (.bool false) (by kernel_rfl) (by kernel_rfl) (L_pickF (by kernel_rfl) (L_mv (L_want (by kernel_rfl) (L_mv (L_want (by kernel_rfl) (L_run (.bool false) (by kernel_rfl) (by kernel_rfl) (L_pickF (by kernel_rfl) (L_mv (L_want (by kernel_rfl) (L_mv (L_want (by kernel_rfl) (L_run (.bool false) (by kernel_rfl) (by kernel_rfl) (L_pickF (by kernel_rfl) (L_mv (L_want (by kernel_rfl) (L_mv (L_want (by kernel_rfl) (L_sneF ([110] : List UInt8) ([110] : List UInt8) (by rfl) (by kernel_rfl) (by kernel_rfl) (L_pickF (by kernel_rfl) (L_mv (L_want (by kernel_rfl) (L_mv (L_want (by kernel_rfl) (L_run (.bool false) (by kernel_rfl) (by kernel_rfl) (L_pickF (by kernel_rfl) (L_nil (thenQ_normal (W_false (by kernel_rfl) (W_skip (thenQ_normal (W_seq (W_region (L_call 18 [(S ([76, 101, 102, 116, 95, 84, 111, 45, 82, 105, 103, 104, 116] : List UInt8))] (by kernel_rfl) (by kernel_rfl) (calls_as (c_words_Loose ([76, 101, 102, 116, 95, 84, 111, 45, 82, 105, 103, 104, 116] : List UInt8) _ (by first | omega | (simp; done) | decide)) (by kernel_rfl : _ = fun v w' => v = (S ([108, 101, 102, 116, 116, 111, 114, 105, 103, 104, 116] : List UInt8)) ∧ Below w33.heap.size w33 w')) ?_))))))))))))))))))))))))))))))))))))))))))))))))))))))))))
  rintro _ w36 ⟨rfl, hB37⟩
  replace hb := hb.trans (hB37.mono hs)
  replace hs := Nat.le_trans hs (hB37.size)
  replace r_q1 := r_q1.below hB37
  replace r_q5 := r_q5.below hB37
  replace r_b9 := r_b9.below hB37
  replace r_b15 := r_b15.below hB37
  replace r_b30 := r_b30.below hB37
  refine L_seqT ([108, 101, 102, 116, 116, 111, 114, 105, 103, 104, 116] : List UInt8) ([108, 101, 102, 116, 116, 111, 114, 105, 103, 104, 116] : List UInt8) (by rfl) (by kernel_rfl) (by kernel_rfl) (L_mv (L_want (by kernel_rfl) (L_call 18 [(S ([195, 137] : List UInt8))] (by kernel_rfl) (by kernel_rfl) (calls_as (c_words_Loose ([195, 137] : List UInt8) _ (by first | omega | (simp; done) | decide)) (by kernel_rfl : _ = fun v w' => v = (S ([195, 137] : List UInt8)) ∧ Below w36.heap.size w36 w')) ?_)))
  rintro _ w39 ⟨rfl, hB40⟩
  replace hb := hb.trans (hB40.mono hs)
  replace hs := Nat.le_trans hs (hB40.size)
  replace r_q1 := r_q1.below hB40
  replace r_q5 := r_q5.below hB40
  replace r_b9 := r_b9.below hB40
  replace r_b15 := r_b15.below hB40
  replace r_b30 := r_b30.below hB40
  refine L_want (by kernel_rfl) (L_seqT ([195, 137] : List UInt8) ([195, 137] : List UInt8) (by rfl) (by kernel_rfl) (by kernel_rfl) (L_pickT (by kernel_rfl) (L_mv (L_want (by kernel_rfl) (L_call 20 [(S ([255] : List UInt8)), (S ([239, 191, 189] : List UInt8))] (by kernel_rfl) (by kernel_rfl) (calls_as (c_words_Alike ([255] : List UInt8) ([239, 191, 189] : List UInt8) _ (by first | omega | (simp; done) | decide) (by first | omega | (simp; done) | decide)) (by kernel_rfl : _ = fun v w' => v = (.bool true) ∧ Below w39.heap.size w39 w')) ?_)))))
  rintro _ w42 ⟨rfl, hB43⟩
  replace hb := hb.trans (hB43.mono hs)
  replace hs := Nat.le_trans hs (hB43.size)
  replace r_q1 := r_q1.below hB43
  replace r_q5 := r_q5.below hB43
  replace r_b9 := r_b9.below hB43
  replace r_b15 := r_b15.below hB43
  replace r_b30 := r_b30.below hB43
  refine L_pickT (by kernel_rfl) (L_mv (L_pickT (by kernel_rfl) (L_mv (L_pickT (by kernel_rfl) (L_mv (L_pickT (by kernel_rfl) (L_mv (L_pickT (by kernel_rfl) (L_mv (L_want (by kernel_rfl) (L_call 15 [] (by kernel_rfl) (by kernel_rfl) (c_furrowlaw05_awake  _ ) ?_)))))))))))
  rintro _ w45 ⟨rfl, hB46⟩
  replace hb := hb.trans (hB46.mono hs)
  replace hs := Nat.le_trans hs (hB46.size)
  replace r_q1 := r_q1.below hB46
  replace r_q5 := r_q5.below hB46
  replace r_b9 := r_b9.below hB46
  replace r_b15 := r_b15.below hB46
  replace r_b30 := r_b30.below hB46
  refine L_pickT (by kernel_rfl) (L_as (L_nil (thenQ_normal (W_ret ?_))))
  refine end_ret [.tmp 0] [(.bool true)] rfl rfl ⟨by kernel_rfl, trivial⟩ ?_
  have e0 : true = true := by rfl
  exact ⟨congrArg Value.bool e0, hb⟩

end Go.Proofs.Ytbknjmjflfkhkaa
