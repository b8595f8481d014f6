/- Walks, written by my program walk.py out of the specification mcor.py: each theorem says what one function returns and that it leaves memory as it was. -/
import Derived.Test.YtjdcmeoiommglaaDoorPMir
import Derived.Test.YtjdcmeoiommglaaDoorWllines
import Derived.Test.YtjdcmeoiommglaaDoorWlscan
import Derived.Test.YtjdcmeoiommglaaDoorWlread
import Derived.Test.YtjdcmeoiommglaaDoorWlref
import Derived.Test.YtjdcmeoiommglaaDoorFKab
import Derived.Test.YtjdcmeoiommglaaDoorProg
import Derived.Tactics2
namespace Go.Proofs.YtjdcmeoiommglaaDoor
open Go Go.RowKit Go.FK
set_option linter.unusedVariables false
set_option linter.unusedSimpArgs false

def laysRev_ren : Go.Shelf.Ren := ⟨fun | 35 => 57 | n => n, fun | 22 => 71 | 23 => 5 | n => n, fun | n => n⟩
theorem laysRev : Go.Proofs.SlLaysE.n35 Tryd.prog laysRev_ren := {
  mixed := by kernel_rfl
  f35 := ⟨Tryd.f57.name, by kernel_rfl, Tryd.func57.trans (congrArg some (by kernel_rfl))⟩
  t0 := Tryd.underlying0
  a0 := Tryd.isAgg0
  z0 := Tryd.sizeOf0
  v0 := Tryd.zeroValue0
  t3 := Tryd.underlying3
  a3 := Tryd.isAgg3
  z3 := Tryd.sizeOf3
  v3 := Tryd.zeroValue3
  t4 := Tryd.underlying4
  a4 := Tryd.isAgg4
  z4 := Tryd.sizeOf4
  v4 := Tryd.zeroValue4
  t22 := Tryd.underlying71
  a22 := Tryd.isAgg71
  z22 := Tryd.sizeOf71
  v22 := Tryd.zeroValue71
  a23 := Tryd.isAgg5
  z23 := Tryd.sizeOf5 }
theorem el48 : Elem Tryd.prog 48 21 1 4 := ⟨Tryd.underlying48, by kernel_rfl, rfl⟩
theorem el71 : Elem Tryd.prog 71 5 1 1 := ⟨Tryd.underlying71, by kernel_rfl, rfl⟩
set_option maxHeartbeats 4000000 in
set_option maxRecDepth 100000 in
theorem c_utf_Encode (v_l : Value) (l : List (Int)) (w : World) (p_l : Rd w encI32 v_l l) :
    Calls Tryd.prog 36 #[v_l] w (Ret fun v w' => v = (S (encL l)) ∧ Below w.heap.size w w') := by
  refine enter (args := [v_l]) Tryd.func36 rfl (by kernel_rfl : _ = 5) (by kernel_rfl) ?_
  have hb := Below.refl w.heap.size w
  have hs : w.heap.size ≤ w.heap.size := Nat.le_refl _
  have in_p_l := p_l
  refine W_seq (W_region (L_as (L_nil (thenQ_normal (W_seq (W_region (L_mv (L_runesStr v_l l Tryd.underlying48 Tryd.underlying21 Tryd.underlying9 (by kernel_rfl) p_l (L_as (L_nil (thenQ_normal (W_ret ?_))))))))))))
  refine end_ret [.tmp 2] [(S (encL l))] rfl rfl ⟨by kernel_rfl, trivial⟩ ?_
  have e0 : (encL l) = encL l := by first | rfl | (simp_all; done) | omega
  exact ⟨congrArg S e0, hb⟩

set_option maxHeartbeats 4000000 in
set_option maxRecDepth 100000 in
theorem c_furrowref01_Scalar (r : Int) (w : World) :
    Calls Tryd.prog 76 #[(.int .i32 r)] w (Ret fun v w' => v = (.bool (scalarB r)) ∧ Below w.heap.size w w') := by
  refine enter (args := [(.int .i32 r)]) Tryd.func76 rfl (by kernel_rfl : _ = 17) (by kernel_rfl) ?_
  have hb := Below.refl w.heap.size w
  have hs : w.heap.size ≤ w.heap.size := Nat.le_refl _
  refine W_seq (W_region (L_as (L_nil (thenQ_normal (W_seq (W_region (L_mv (L_cmp .i32 r 0 (0 ≤ r) rfl (cmp_ge r 0) (by kernel_rfl) (by kernel_rfl) ?_ ?_))))))))
  · intro h1
    replace h1 : 0 ≤ r := by omega
    refine L_mv (L_want (by kernel_rfl) (L_mv (L_want (by kernel_rfl) (L_cmp .i32 r 1114111 (r ≤ 1114111) rfl (cmp_le r 1114111) (by kernel_rfl) (by kernel_rfl) ?_ ?_))))
    · intro h2
      replace h2 : r ≤ 1114111 := by omega
      refine L_pickT (by kernel_rfl) (L_mv (L_want (by kernel_rfl) (L_mv (L_want (by kernel_rfl) (L_cmp .i32 r 55296 (r < 55296) rfl (cmp_lt r 55296) (by kernel_rfl) (by kernel_rfl) ?_ ?_)))))
      · intro h3
        replace h3 : r < 55296 := by omega
        refine L_want (by kernel_rfl) (L_mv (L_skip (by kernel_rfl) (L_skip (by kernel_rfl) (L_want (by kernel_rfl) (L_pickT (by kernel_rfl) (L_pickT (by kernel_rfl) (L_as (L_nil (thenQ_normal (W_ret ?_))))))))))
        refine end_ret [.tmp 2] [(.bool true)] rfl rfl ⟨by kernel_rfl, trivial⟩ ?_
        have e0 : true = scalarB r := by unfold scalarB; simp; omega
        exact ⟨congrArg Value.bool e0, hb⟩
      · intro h4
        replace h4 : 55296 ≤ r := by omega
        refine L_want (by kernel_rfl) (L_mv (L_want (by kernel_rfl) (L_mv (L_want (by kernel_rfl) (L_cmp .i32 r 57343 (57343 < r) rfl (cmp_gt r 57343) (by kernel_rfl) (by kernel_rfl) ?_ ?_)))))
        · intro h5
          replace h5 : 57343 < r := by omega
          refine L_want (by kernel_rfl) (L_pickF (by kernel_rfl) (L_pickT (by kernel_rfl) (L_as (L_nil (thenQ_normal (W_ret ?_))))))
          refine end_ret [.tmp 2] [(.bool true)] rfl rfl ⟨by kernel_rfl, trivial⟩ ?_
          have e0 : true = scalarB r := by unfold scalarB; simp; omega
          exact ⟨congrArg Value.bool e0, hb⟩
        · intro h6
          replace h6 : r ≤ 57343 := by omega
          refine L_want (by kernel_rfl) (L_pickF (by kernel_rfl) (L_pickT (by kernel_rfl) (L_as (L_nil (thenQ_normal (W_ret ?_))))))
          refine end_ret [.tmp 2] [(.bool false)] rfl rfl ⟨by kernel_rfl, trivial⟩ ?_
          have e0 : false = scalarB r := by unfold scalarB; simp; omega
          exact ⟨congrArg Value.bool e0, hb⟩
    · intro h7
      replace h7 : 1114111 < r := by omega
      refine L_pickT (by kernel_rfl) (L_mv (L_skip (by kernel_rfl) (L_skip (by kernel_rfl) (L_skip (by kernel_rfl) (L_skip (by kernel_rfl) (L_skip (by kernel_rfl) (L_skip (by kernel_rfl) (L_pickF (by kernel_rfl) (L_as (L_nil (thenQ_normal (W_ret ?_))))))))))))
      refine end_ret [.tmp 2] [(.bool false)] rfl rfl ⟨by kernel_rfl, trivial⟩ ?_
      have e0 : false = scalarB r := by unfold scalarB; simp; omega
      exact ⟨congrArg Value.bool e0, hb⟩
  · intro h8
    replace h8 : r < 0 := by omega
    refine L_mv (L_skip (by kernel_rfl) (L_skip (by kernel_rfl) (L_pickF (by kernel_rfl) (L_mv (L_skip (by kernel_rfl) (L_skip (by kernel_rfl) (L_skip (by kernel_rfl) (L_skip (by kernel_rfl) (L_skip (by kernel_rfl) (L_skip (by kernel_rfl) (L_pickF (by kernel_rfl) (L_as (L_nil (thenQ_normal (W_ret ?_)))))))))))))))
    refine end_ret [.tmp 2] [(.bool false)] rfl rfl ⟨by kernel_rfl, trivial⟩ ?_
    have e0 : false = scalarB r := by unfold scalarB; simp; omega
    exact ⟨congrArg Value.bool e0, hb⟩

set_option maxHeartbeats 4000000 in
set_option maxRecDepth 100000 in
theorem c_furrowref01_Width (r : Int) (w : World) :
    Calls Tryd.prog 65 #[(.int .i32 r)] w (Ret fun v w' => v = (.int .i64 ((widthN r : Nat) : Int)) ∧ Below w.heap.size w w') := by
  refine enter (args := [(.int .i32 r)]) Tryd.func65 rfl (by kernel_rfl : _ = 12) (by kernel_rfl) ?_
  have hb := Below.refl w.heap.size w
  have hs : w.heap.size ≤ w.heap.size := Nat.le_refl _
  refine W_seq (W_region (L_as (L_nil (thenQ_normal (W_seq (W_seq (W_region (L_mv (L_call 76 [(.int .i32 r)] (by kernel_rfl) (by kernel_rfl) (c_furrowref01_Scalar r _ ) ?_)))))))))
  rintro _ w1 ⟨rfl, hB2⟩
  replace hb := hb.trans (hB2.mono hs)
  replace hs := Nat.le_trans hs (hB2.size)
  refine put_split (scalarB r) ?_ ?_
  · intro h4
    refine L_not true (by kernel_rfl) (L_nil (thenQ_normal (W_false (by kernel_rfl) (W_skip (thenQ_normal (W_seq (W_seq (W_region (L_mv (L_cmp .i32 r 128 (r < 128) rfl (cmp_lt r 128) (by kernel_rfl) (by kernel_rfl) ?_ ?_))))))))))
    · intro h5
      replace h5 : r < 128 := by omega
      refine L_nil (thenQ_normal (W_true (by kernel_rfl) (W_seq (W_region (L_as (L_nil (thenQ_normal (W_ret (thenQ_ret ?_)))))))))
      refine end_ret [.tmp 2] [(.int .i64 1)] rfl rfl ⟨by kernel_rfl, trivial⟩ ?_
      have e0 : 1 = widthN r := by unfold widthN; (repeat' split) <;> first | rfl | omega | (simp_all; done)
      exact ⟨congrArg (fun x : Nat => Value.int .i64 (x : Int)) e0, hb⟩
    · intro h6
      replace h6 : 128 ≤ r := by omega
      refine L_nil (thenQ_normal (W_false (by kernel_rfl) (W_skip (thenQ_normal (W_seq (W_seq (W_region (L_mv (L_cmp .i32 r 2048 (r < 2048) rfl (cmp_lt r 2048) (by kernel_rfl) (by kernel_rfl) ?_ ?_)))))))))
      · intro h7
        replace h7 : r < 2048 := by omega
        refine L_nil (thenQ_normal (W_true (by kernel_rfl) (W_seq (W_region (L_as (L_nil (thenQ_normal (W_ret (thenQ_ret ?_)))))))))
        refine end_ret [.tmp 2] [(.int .i64 2)] rfl rfl ⟨by kernel_rfl, trivial⟩ ?_
        have e0 : 2 = widthN r := by unfold widthN; (repeat' split) <;> first | rfl | omega | (simp_all; done)
        exact ⟨congrArg (fun x : Nat => Value.int .i64 (x : Int)) e0, hb⟩
      · intro h8
        replace h8 : 2048 ≤ r := by omega
        refine L_nil (thenQ_normal (W_false (by kernel_rfl) (W_skip (thenQ_normal (W_seq (W_seq (W_region (L_mv (L_cmp .i32 r 65536 (r < 65536) rfl (cmp_lt r 65536) (by kernel_rfl) (by kernel_rfl) ?_ ?_)))))))))
        · intro h9
          replace h9 : r < 65536 := by omega
          refine L_nil (thenQ_normal (W_true (by kernel_rfl) (W_seq (W_region (L_as (L_nil (thenQ_normal (W_ret (thenQ_ret ?_)))))))))
          refine end_ret [.tmp 2] [(.int .i64 3)] rfl rfl ⟨by kernel_rfl, trivial⟩ ?_
          have e0 : 3 = widthN r := by unfold widthN; (repeat' split) <;> first | rfl | omega | (simp_all; done)
          exact ⟨congrArg (fun x : Nat => Value.int .i64 (x : Int)) e0, hb⟩
        · intro h10
          replace h10 : 65536 ≤ r := by omega
          refine L_nil (thenQ_normal (W_false (by kernel_rfl) (W_skip (thenQ_normal (W_seq (W_region (L_as (L_nil (thenQ_normal (W_ret ?_))))))))))
          refine end_ret [.tmp 2] [(.int .i64 4)] rfl rfl ⟨by kernel_rfl, trivial⟩ ?_
          have e0 : 4 = widthN r := by unfold widthN; (repeat' split) <;> first | rfl | omega | (simp_all; done)
          exact ⟨congrArg (fun x : Nat => Value.int .i64 (x : Int)) e0, hb⟩
  · intro h11
    refine L_not false (by kernel_rfl) (L_nil (thenQ_normal (W_true (by kernel_rfl) (W_seq (W_region (L_as (L_nil (thenQ_normal (W_ret (thenQ_ret ?_))))))))))
    refine end_ret [.tmp 2] [(.int .i64 0)] rfl rfl ⟨by kernel_rfl, trivial⟩ ?_
    have e0 : 0 = widthN r := by unfold widthN; (repeat' split) <;> first | rfl | omega | (simp_all; done)
    exact ⟨congrArg (fun x : Nat => Value.int .i64 (x : Int)) e0, hb⟩

set_option maxHeartbeats 4000000 in
set_option maxRecDepth 100000 in
theorem c_furrowref01_one (b : Int) (w : World) (h0 : 0 ≤ b) (h1 : b ≤ 255) :
    Calls Tryd.prog 66 #[(.int .i64 b)] w (Ret fun v w' => v = (S (bytesI [b])) ∧ Below w.heap.size w w') := by
  refine enter (args := [(.int .i64 b)]) Tryd.func66 rfl (by kernel_rfl : _ = 7) (by kernel_rfl) ?_
  have hb := Below.refl w.heap.size w
  have hs : w.heap.size ≤ w.heap.size := Nat.le_refl _
  refine W_seq (W_region (L_as (L_nil (thenQ_normal (W_seq (W_region (L_mv (L_conv (k := .i64) b b (by kernel_rfl) Tryd.underlying5 (by kernel_rfl) (wrap_u8 _ (by omega) (by omega)) (L_new (fun b => .slice (some ⟨b, 0, none⟩) 1 1) (.cells [(.int .u8 b)].toArray 5 (0, 0)) (by kernel_rfl) (by kernel_rfl) ?_)))))))))
  intro b1 w2 hN3
  have g_b1 : w.heap.size ≤ b1 := by rw [hN3.num]; exact hs
  replace hb := hb.trans (hN3.below.mono hs)
  replace hs := Nat.le_trans hs (hN3.below.size)
  have r_b1 : Row w2 w.heap.size 5 1 encU8 (.slice (some ⟨b1, 0, none⟩) 1 1) ([b] : List (Int)) := Row.made ([b] : List (Int)) hN3 g_b1 rfl rfl (by first | decide | (simp; done))
  refine L_bytesStr (.slice (some ⟨b1, 0, none⟩) 1 1) ([b] : List (Int)) Tryd.underlying71 Tryd.underlying5 Tryd.underlying9 (by kernel_rfl) r_b1.rd (L_as (L_nil (thenQ_normal (W_ret ?_))))
  refine end_ret [.tmp 2] [(S (bytesI ([b] : List (Int))))] rfl rfl ⟨by kernel_rfl, trivial⟩ ?_
  have e0 : (bytesI ([b] : List (Int))) = bytesI [b] := by rfl
  exact ⟨congrArg S e0, hb⟩

set_option maxHeartbeats 4000000 in
set_option maxRecDepth 100000 in
theorem c_furrowref01_Sequence (r : Int) (w : World) (r0 : -2147483648 ≤ r) (r1 : r ≤ 2147483647) :
    Calls Tryd.prog 56 #[(.int .i32 r)] w (Ret fun v w' => v = (S (encL [r])) ∧ Below w.heap.size w w') := by
  refine enter (args := [(.int .i32 r)]) Tryd.func56 rfl (by kernel_rfl : _ = 63) (by kernel_rfl) ?_
  have hb := Below.refl w.heap.size w
  have hs : w.heap.size ≤ w.heap.size := Nat.le_refl _
  refine W_seq (W_region (L_as (L_nil (thenQ_normal (W_seq (W_region (L_mv (L_conv (k := .i32) r r (by kernel_rfl) Tryd.underlying3 (by kernel_rfl) (wrap_i64 _ (by omega) (by omega)) (L_as (L_nil (thenQ_normal (W_seq (W_seq (W_region (L_mv (L_call 65 [(.int .i32 r)] (by kernel_rfl) (by kernel_rfl) (c_furrowref01_Width r _ ) ?_))))))))))))))))
  rintro _ w1 ⟨rfl, hB2⟩
  replace hb := hb.trans (hB2.mono hs)
  replace hs := Nat.le_trans hs (hB2.size)
  have := widthN_cases r
  refine L_nil (thenQ_normal (W_block (W_seq (W_region (L_cmp .i64 ((widthN r : Nat) : Int) ((1 : Nat) : Int) (widthN r = 1) rfl (cmpN_eq (widthN r) 1) (by kernel_rfl) (by kernel_rfl) ?_ ?_)))))
  · intro h4
    replace h4 : widthN r = 1 := by omega
    refine L_as (L_nil (thenQ_normal (W_true (by kernel_rfl) (W_seq (W_region (L_mv (L_call 66 [(.int .i64 r)] (by kernel_rfl) (by kernel_rfl) (c_furrowref01_one r _ (by first | omega | (simp at *; omega)) (by first | omega | (simp at *; omega))) ?_)))))))
    rintro _ w5 ⟨rfl, hB6⟩
    replace hb := hb.trans (hB6.mono hs)
    replace hs := Nat.le_trans hs (hB6.size)
    have := bytesI1_len r
    refine L_as (L_nil (thenQ_normal (W_ret (blkQ_ret (thenQ_ret ?_)))))
    refine end_ret [.tmp 2] [(S (bytesI [r]))] rfl rfl ⟨by kernel_rfl, trivial⟩ ?_
    have e0 : bytesI [r] = encL [r] := by exact seq1 (by assumption)
    exact ⟨congrArg S e0, hb⟩
  · intro h8
    replace h8 : widthN r ≠ 1 := by omega
    refine L_as (L_nil (thenQ_normal (W_false (by kernel_rfl) (W_seq (W_region (L_cmp .i64 ((widthN r : Nat) : Int) ((2 : Nat) : Int) (widthN r = 2) rfl (cmpN_eq (widthN r) 2) (by kernel_rfl) (by kernel_rfl) ?_ ?_))))))
    · intro h9
      replace h9 : widthN r = 2 := by omega
      refine L_as (L_nil (thenQ_normal (W_true (by kernel_rfl) (W_seq (W_region (L_mv (L_quo (k := .i64) r 64 (r / 64) (by first | omega | (simp at *; omega)) (by first | omega | (simp at *; omega)) (by kernel_rfl) (by kernel_rfl) (wrap_i64 _ (by omega) (by omega)) (L_arith 192 (r / 64) (192 + (r / 64)) rfl (by kernel_rfl) (by kernel_rfl) (wrap_i64 _ (by simp only [arithZ]; omega) (by simp only [arithZ]; omega)) (L_call 66 [(.int .i64 (192 + (r / 64)))] (by kernel_rfl) (by kernel_rfl) (c_furrowref01_one (192 + (r / 64)) _ (by first | omega | (simp at *; omega)) (by first | omega | (simp at *; omega))) ?_)))))))))
      rintro _ w10 ⟨rfl, hB11⟩
      replace hb := hb.trans (hB11.mono hs)
      replace hs := Nat.le_trans hs (hB11.size)
      have := bytesI1_len (192 + (r / 64))
      refine L_mv (L_rem (k := .i64) r 64 (by first | omega | (simp at *; omega)) (by first | omega | (simp at *; omega)) (by kernel_rfl) (by kernel_rfl) (L_arith 128 (r % 64) (128 + (r % 64)) rfl (by kernel_rfl) (by kernel_rfl) (wrap_i64 _ (by simp only [arithZ]; omega) (by simp only [arithZ]; omega)) (L_call 66 [(.int .i64 (128 + (r % 64)))] (by kernel_rfl) (by kernel_rfl) (c_furrowref01_one (128 + (r % 64)) _ (by first | omega | (simp at *; omega)) (by first | omega | (simp at *; omega))) ?_)))
      rintro _ w13 ⟨rfl, hB14⟩
      replace hb := hb.trans (hB14.mono hs)
      replace hs := Nat.le_trans hs (hB14.size)
      have := bytesI1_len (128 + (r % 64))
      refine L_sadd (bytesI [(192 + (r / 64))]) (bytesI [(128 + (r % 64))]) (by omega) (by kernel_rfl) (by kernel_rfl) (L_as (L_nil (thenQ_normal (W_ret (blkQ_ret (thenQ_ret ?_))))))
      refine end_ret [.tmp 2] [(S (bytesI [(192 + (r / 64))] ++ bytesI [(128 + (r % 64))]))] rfl rfl ⟨by kernel_rfl, trivial⟩ ?_
      have e0 : (bytesI [(192 + (r / 64))] ++ bytesI [(128 + (r % 64))]) = encL [r] := by exact seq2 (by assumption)
      exact ⟨congrArg S e0, hb⟩
    · intro h16
      replace h16 : widthN r ≠ 2 := by omega
      refine L_as (L_nil (thenQ_normal (W_false (by kernel_rfl) (W_seq (W_region (L_cmp .i64 ((widthN r : Nat) : Int) ((3 : Nat) : Int) (widthN r = 3) rfl (cmpN_eq (widthN r) 3) (by kernel_rfl) (by kernel_rfl) ?_ ?_))))))
      · intro h17
        replace h17 : widthN r = 3 := by omega
        refine L_as (L_nil (thenQ_normal (W_true (by kernel_rfl) (W_seq (W_region (L_mv (L_quo (k := .i64) r 4096 (r / 4096) (by first | omega | (simp at *; omega)) (by first | omega | (simp at *; omega)) (by kernel_rfl) (by kernel_rfl) (wrap_i64 _ (by omega) (by omega)) (L_arith 224 (r / 4096) (224 + (r / 4096)) rfl (by kernel_rfl) (by kernel_rfl) (wrap_i64 _ (by simp only [arithZ]; omega) (by simp only [arithZ]; omega)) (L_call 66 [(.int .i64 (224 + (r / 4096)))] (by kernel_rfl) (by kernel_rfl) (c_furrowref01_one (224 + (r / 4096)) _ (by first | omega | (simp at *; omega)) (by first | omega | (simp at *; omega))) ?_)))))))))
        rintro _ w18 ⟨rfl, hB19⟩
        replace hb := hb.trans (hB19.mono hs)
        replace hs := Nat.le_trans hs (hB19.size)
        have := bytesI1_len (224 + (r / 4096))
        refine L_mv (L_quo (k := .i64) r 64 (r / 64) (by first | omega | (simp at *; omega)) (by first | omega | (simp at *; omega)) (by kernel_rfl) (by kernel_rfl) (wrap_i64 _ (by omega) (by omega)) (L_rem (k := .i64) (r / 64) 64 (by first | omega | (simp at *; omega)) (by first | omega | (simp at *; omega)) (by kernel_rfl) (by kernel_rfl) (L_arith 128 ((r / 64) % 64) (128 + ((r / 64) % 64)) rfl (by kernel_rfl) (by kernel_rfl) (wrap_i64 _ (by simp only [arithZ]; omega) (by simp only [arithZ]; omega)) (L_call 66 [(.int .i64 (128 + ((r / 64) % 64)))] (by kernel_rfl) (by kernel_rfl) (c_furrowref01_one (128 + ((r / 64) % 64)) _ (by first | omega | (simp at *; omega)) (by first | omega | (simp at *; omega))) ?_))))
        rintro _ w21 ⟨rfl, hB22⟩
        replace hb := hb.trans (hB22.mono hs)
        replace hs := Nat.le_trans hs (hB22.size)
        have := bytesI1_len (128 + ((r / 64) % 64))
        refine L_sadd (bytesI [(224 + (r / 4096))]) (bytesI [(128 + ((r / 64) % 64))]) (by omega) (by kernel_rfl) (by kernel_rfl) (L_mv (L_rem (k := .i64) r 64 (by first | omega | (simp at *; omega)) (by first | omega | (simp at *; omega)) (by kernel_rfl) (by kernel_rfl) (L_arith 128 (r % 64) (128 + (r % 64)) rfl (by kernel_rfl) (by kernel_rfl) (wrap_i64 _ (by simp only [arithZ]; omega) (by simp only [arithZ]; omega)) (L_call 66 [(.int .i64 (128 + (r % 64)))] (by kernel_rfl) (by kernel_rfl) (c_furrowref01_one (128 + (r % 64)) _ (by first | omega | (simp at *; omega)) (by first | omega | (simp at *; omega))) ?_))))
        rintro _ w24 ⟨rfl, hB25⟩
        replace hb := hb.trans (hB25.mono hs)
        replace hs := Nat.le_trans hs (hB25.size)
        have := bytesI1_len (128 + (r % 64))
        refine L_sadd (bytesI [(224 + (r / 4096))] ++ bytesI [(128 + ((r / 64) % 64))]) (bytesI [(128 + (r % 64))]) (by (simp only [List.length_append, List.length_cons, List.length_nil]; omega)) (by kernel_rfl) (by kernel_rfl) (L_as (L_nil (thenQ_normal (W_ret (blkQ_ret (thenQ_ret ?_))))))
        refine end_ret [.tmp 2] [(S ((bytesI [(224 + (r / 4096))] ++ bytesI [(128 + ((r / 64) % 64))]) ++ bytesI [(128 + (r % 64))]))] rfl rfl ⟨by kernel_rfl, trivial⟩ ?_
        have e0 : ((bytesI [(224 + (r / 4096))] ++ bytesI [(128 + ((r / 64) % 64))]) ++ bytesI [(128 + (r % 64))]) = encL [r] := by exact seq3 (by assumption)
        exact ⟨congrArg S e0, hb⟩
      · intro h27
        replace h27 : widthN r ≠ 3 := by omega
        refine L_as (L_nil (thenQ_normal (W_false (by kernel_rfl) (W_seq (W_region (L_cmp .i64 ((widthN r : Nat) : Int) ((4 : Nat) : Int) (widthN r = 4) rfl (cmpN_eq (widthN r) 4) (by kernel_rfl) (by kernel_rfl) ?_ ?_))))))
        · intro h28
          replace h28 : widthN r = 4 := by omega
          refine L_as (L_nil (thenQ_normal (W_true (by kernel_rfl) (W_seq (W_region (L_mv (L_quo (k := .i64) r 262144 (r / 262144) (by first | omega | (simp at *; omega)) (by first | omega | (simp at *; omega)) (by kernel_rfl) (by kernel_rfl) (wrap_i64 _ (by omega) (by omega)) (L_arith 240 (r / 262144) (240 + (r / 262144)) rfl (by kernel_rfl) (by kernel_rfl) (wrap_i64 _ (by simp only [arithZ]; omega) (by simp only [arithZ]; omega)) (L_call 66 [(.int .i64 (240 + (r / 262144)))] (by kernel_rfl) (by kernel_rfl) (c_furrowref01_one (240 + (r / 262144)) _ (by first | omega | (simp at *; omega)) (by first | omega | (simp at *; omega))) ?_)))))))))
          rintro _ w29 ⟨rfl, hB30⟩
          replace hb := hb.trans (hB30.mono hs)
          replace hs := Nat.le_trans hs (hB30.size)
          have := bytesI1_len (240 + (r / 262144))
          refine L_mv (L_quo (k := .i64) r 4096 (r / 4096) (by first | omega | (simp at *; omega)) (by first | omega | (simp at *; omega)) (by kernel_rfl) (by kernel_rfl) (wrap_i64 _ (by omega) (by omega)) (L_rem (k := .i64) (r / 4096) 64 (by first | omega | (simp at *; omega)) (by first | omega | (simp at *; omega)) (by kernel_rfl) (by kernel_rfl) (L_arith 128 ((r / 4096) % 64) (128 + ((r / 4096) % 64)) rfl (by kernel_rfl) (by kernel_rfl) (wrap_i64 _ (by simp only [arithZ]; omega) (by simp only [arithZ]; omega)) (L_call 66 [(.int .i64 (128 + ((r / 4096) % 64)))] (by kernel_rfl) (by kernel_rfl) (c_furrowref01_one (128 + ((r / 4096) % 64)) _ (by first | omega | (simp at *; omega)) (by first | omega | (simp at *; omega))) ?_))))
          rintro _ w32 ⟨rfl, hB33⟩
          replace hb := hb.trans (hB33.mono hs)
          replace hs := Nat.le_trans hs (hB33.size)
          have := bytesI1_len (128 + ((r / 4096) % 64))
          refine L_sadd (bytesI [(240 + (r / 262144))]) (bytesI [(128 + ((r / 4096) % 64))]) (by omega) (by kernel_rfl) (by kernel_rfl) (L_mv (L_quo (k := .i64) r 64 (r / 64) (by first | omega | (simp at *; omega)) (by first | omega | (simp at *; omega)) (by kernel_rfl) (by kernel_rfl) (wrap_i64 _ (by omega) (by omega)) (L_rem (k := .i64) (r / 64) 64 (by first | omega | (simp at *; omega)) (by first | omega | (simp at *; omega)) (by kernel_rfl) (by kernel_rfl) (L_arith 128 ((r / 64) % 64) (128 + ((r / 64) % 64)) rfl (by kernel_rfl) (by kernel_rfl) (wrap_i64 _ (by simp only [arithZ]; omega) (by simp only [arithZ]; omega)) (L_call 66 [(.int .i64 (128 + ((r / 64) % 64)))] (by kernel_rfl) (by kernel_rfl) (c_furrowref01_one (128 + ((r / 64) % 64)) _ (by first | omega | (simp at *; omega)) (by first | omega | (simp at *; omega))) ?_)))))
          rintro _ w35 ⟨rfl, hB36⟩
          replace hb := hb.trans (hB36.mono hs)
          replace hs := Nat.le_trans hs (hB36.size)
          have := bytesI1_len (128 + ((r / 64) % 64))
          refine L_sadd (bytesI [(240 + (r / 262144))] ++ bytesI [(128 + ((r / 4096) % 64))]) (bytesI [(128 + ((r / 64) % 64))]) (by (simp only [List.length_append, List.length_cons, List.length_nil]; omega)) (by kernel_rfl) (by kernel_rfl) (L_mv (L_rem (k := .i64) r 64 (by first | omega | (simp at *; omega)) (by first | omega | (simp at *; omega)) (by kernel_rfl) (by kernel_rfl) (L_arith 128 (r % 64) (128 + (r % 64)) rfl (by kernel_rfl) (by kernel_rfl) (wrap_i64 _ (by simp only [arithZ]; omega) (by simp only [arithZ]; omega)) (L_call 66 [(.int .i64 (128 + (r % 64)))] (by kernel_rfl) (by kernel_rfl) (c_furrowref01_one (128 + (r % 64)) _ (by first | omega | (simp at *; omega)) (by first | omega | (simp at *; omega))) ?_))))
          rintro _ w38 ⟨rfl, hB39⟩
          replace hb := hb.trans (hB39.mono hs)
          replace hs := Nat.le_trans hs (hB39.size)
          have := bytesI1_len (128 + (r % 64))
          refine L_sadd ((bytesI [(240 + (r / 262144))] ++ bytesI [(128 + ((r / 4096) % 64))]) ++ bytesI [(128 + ((r / 64) % 64))]) (bytesI [(128 + (r % 64))]) (by (simp only [List.length_append, List.length_cons, List.length_nil]; omega)) (by kernel_rfl) (by kernel_rfl) (L_as (L_nil (thenQ_normal (W_ret (blkQ_ret (thenQ_ret ?_))))))
          refine end_ret [.tmp 2] [(S (((bytesI [(240 + (r / 262144))] ++ bytesI [(128 + ((r / 4096) % 64))]) ++ bytesI [(128 + ((r / 64) % 64))]) ++ bytesI [(128 + (r % 64))]))] rfl rfl ⟨by kernel_rfl, trivial⟩ ?_
          have e0 : (((bytesI [(240 + (r / 262144))] ++ bytesI [(128 + ((r / 4096) % 64))]) ++ bytesI [(128 + ((r / 64) % 64))]) ++ bytesI [(128 + (r % 64))]) = encL [r] := by exact seq4 (by assumption)
          exact ⟨congrArg S e0, hb⟩
        · intro h41
          replace h41 : widthN r ≠ 4 := by omega
          refine L_as (L_nil (thenQ_normal (W_false (by kernel_rfl) (W_skip (blkQ_normal (thenQ_normal (W_seq (W_region (L_as (L_nil (thenQ_normal (W_ret ?_))))))))))))
          refine end_ret [.tmp 2] [(S ([239, 191, 189] : List UInt8))] rfl rfl ⟨by kernel_rfl, trivial⟩ ?_
          have e0 : ([239, 191, 189] : List UInt8) = encL [r] := by exact seq0 (by omega)
          exact ⟨congrArg S e0, hb⟩

set_option maxHeartbeats 4000000 in
set_option maxRecDepth 100000 in
theorem c_furrowref01_Encode (v_l : Value) (l : List (Int)) (w : World) (p_l : Rd w encI32 v_l l) (hl : l.length ≤ 1073741824) (hr : ∀ x ∈ l, -2147483648 ≤ x ∧ x ≤ 2147483647) :
    Calls Tryd.prog 39 #[v_l] w (Ret fun v w' => v = (S (encL l)) ∧ Below w.heap.size w w') := by
  refine enter (args := [v_l]) Tryd.func39 rfl (by kernel_rfl : _ = 19) (by kernel_rfl) ?_
  have hb := Below.refl w.heap.size w
  have hs : w.heap.size ≤ w.heap.size := Nat.le_refl _
  have in_p_l := p_l
  refine W_seq (W_region (L_as (L_nil (thenQ_normal (W_seq (W_region (L_as (L_nil (thenQ_normal (W_seq (W_seq (W_region (L_as (L_nil (thenQ_normal (W_block ?_))))))))))))))))
  refine W_loop (fun m s0 w0 => ∃ (i : Nat) (acc : List UInt8), (m = l.length - i) ∧ (s0.ds = []) ∧ (s0.f 0 = v_l) ∧ (s0.f 2 = (S ([] : List UInt8))) ∧ (s0.f 3 = (S acc)) ∧ (s0.f 4 = (.int .i64 ((i : Nat) : Int))) ∧ (Rd w0 encI32 v_l l) ∧ (Below w.heap.size w w0) ∧ (w.heap.size ≤ w0.heap.size) ∧ (i ≤ l.length) ∧ (acc = encL (l.take i))) _ ⟨0, ([] : List UInt8), rfl, by kernel_rfl, by kernel_rfl, by kernel_rfl, by kernel_rfl, by kernel_rfl, p_l, hb, hs, by omega, rfl⟩ ?_
  rintro m1 s2 w3 ⟨i, acc, hm, hds, f_0, f_2, f_3, f_4, p_l, hb, hs, i1, i2⟩
  refine W_set 0 _ f_0 (W_set 2 _ f_2 (W_set 3 _ f_3 (W_set 4 _ f_4 ?_)))
  clear f_0 f_2 f_3 f_4
  have ha : acc.length ≤ 4 * l.length := by rw [i2]; exact encTake_len l i
  refine W_seq (W_seq (W_region (L_mv (L_mv (L_len 48 21 (l).length v_l rfl Tryd.underlying48 (p_l).len (by kernel_rfl) (L_cmp .i64 ((i : Nat) : Int) (((l).length : Nat) : Int) (i < (l).length) rfl (cmpN_lt i ((l).length)) (by kernel_rfl) (by kernel_rfl) ?_ ?_))))))
  · intro h4
    replace h4 : i < (l).length := by omega
    refine L_nil (thenQ_normal (W_true (by kernel_rfl) (W_skip (thenQ_normal (W_seq (W_block (W_region (L_mv (L_mv (L_mv ?_))))))))))
    have hz := get_some l i (by omega); obtain ⟨x5, hx6⟩ := hz
    have hz := (p_l).at (k := 1) (fun _ => rfl) hx6
    obtain ⟨g7, off8, hl9, hc10⟩ := hz
    have hxr := hr _ (List.mem_of_getElem? hx6)
    refine L_ixaddr (k := .i64) v_l i _ g7 off8 el48 hl9 (by omega) (by kernel_rfl) (by kernel_rfl) (L_load g7 (off8 + i * 1) (.int .i32 x5) (by kernel_rfl) (by kernel_rfl) (hc10 0 _ rfl) (L_call 56 [(.int .i32 x5)] (by kernel_rfl) (by kernel_rfl) (c_furrowref01_Sequence x5 _ (by omega) (by omega)) ?_))
    rintro _ w11 ⟨rfl, hB12⟩
    replace hb := hb.trans (hB12.mono hs)
    replace hs := Nat.le_trans hs (hB12.size)
    replace p_l := p_l.below hB12
    have := encL1_len x5
    refine L_sadd acc (encL [x5]) (by omega) (by kernel_rfl) (by kernel_rfl) (L_as (L_nil (blkQ_normal (thenQ_normal (W_region (L_mv (L_addN i 1 (by omega) (by kernel_rfl) (by kernel_rfl) (L_as (L_nil ?_)))))))))
    refine thenQ_normal ⟨_, ?_, (i + 1), (acc ++ encL [x5]), rfl, hds, by kernel_rfl, by kernel_rfl, by kernel_rfl, by kernel_rfl, p_l, hb, hs, ?_, ?_⟩
    · omega
    · omega
    · rw [i2]; exact encL_take (by assumption)
  · intro h14
    replace h14 : (l).length ≤ i := by omega
    refine L_nil (thenQ_normal (W_false (by kernel_rfl) (W_exit (thenQ_exit (thenQ_exit (blkQ_exit (thenQ_normal (W_seq (W_region (L_mv (L_as (L_nil (thenQ_normal (W_ret ?_))))))))))))))
    refine end_ret [.tmp 2] [(S acc)] rfl hds ⟨by kernel_rfl, trivial⟩ ?_
    have e0 : acc = encL l := by rw [i2, List.take_of_length_le (by omega)]
    exact ⟨congrArg S e0, hb⟩

set_option maxHeartbeats 4000000 in
set_option maxRecDepth 100000 in
theorem c_points_Hex (s : List UInt8) (w : World) (hs : s.length ≤ 1073741824) :
    Calls Tryd.prog 28 #[(S s)] w (Ret fun v w' => v = (.tuple #[(.int .i32 ((hexF s).1)), (.int .i64 ((hexF s).2))]) ∧ Below w.heap.size w w') := by
  refine enter (args := [(S s)]) Tryd.func28 rfl (by kernel_rfl : _ = 45) (by kernel_rfl) ?_
  have hb := Below.refl w.heap.size w
  have hs : w.heap.size ≤ w.heap.size := Nat.le_refl _
  refine W_seq (W_region (L_as (L_as (L_nil (thenQ_normal (W_seq (W_seq (W_region (L_mv (L_slen 9 s rfl Tryd.underlying9 (by kernel_rfl) (L_cmp .i64 (((s).length : Nat) : Int) ((4 : Nat) : Int) ((s).length < 4) rfl (cmpN_lt ((s).length) 4) (by kernel_rfl) (by kernel_rfl) ?_ ?_)))))))))))
  · intro h1
    replace h1 : (s).length < 4 := by omega
    refine L_mv (L_skip (by kernel_rfl) (L_skip (by kernel_rfl) (L_skip (by kernel_rfl) (L_pickT (by kernel_rfl) (L_mv (L_skip (by kernel_rfl) (L_skip (by kernel_rfl) (L_skip (by kernel_rfl) (L_skip (by kernel_rfl) (L_skip (by kernel_rfl) (L_skip (by kernel_rfl) (L_skip (by kernel_rfl) (L_skip (by kernel_rfl) (L_pickT (by kernel_rfl) (L_nil (thenQ_normal (W_true (by kernel_rfl) (W_seq (W_region (L_as (L_as (L_nil (thenQ_normal (W_ret (thenQ_ret ?_)))))))))))))))))))))))))
    refine end_ret [.tmp 2, .tmp 3] [(.int .i32 0), (.int .i64 40)] rfl rfl ⟨by kernel_rfl, by kernel_rfl, trivial⟩ ?_
    have hE : ((0 : Int) = (hexF s).1) ∧ ((40 : Int) = (hexF s).2) := ⟨(by (rw [hexF_len (by omega)]; done)), (by (rw [hexF_len (by omega)]; done))⟩
    exact ⟨tup2 (congrArg (Value.int .i32) hE.1) (congrArg (Value.int .i64) hE.2), hb⟩
  · intro h2
    replace h2 : 4 ≤ (s).length := by omega
    refine L_mv (L_want (by kernel_rfl) (L_mv (L_want (by kernel_rfl) (L_slen 9 s rfl Tryd.underlying9 (by kernel_rfl) (L_want (by kernel_rfl) (L_cmp .i64 (((s).length : Nat) : Int) ((6 : Nat) : Int) (6 < (s).length) rfl (cmpN_gt ((s).length) 6) (by kernel_rfl) (by kernel_rfl) ?_ ?_))))))
    · intro h3
      replace h3 : 6 < (s).length := by omega
      refine L_pickF (by kernel_rfl) (L_mv (L_skip (by kernel_rfl) (L_skip (by kernel_rfl) (L_skip (by kernel_rfl) (L_skip (by kernel_rfl) (L_skip (by kernel_rfl) (L_skip (by kernel_rfl) (L_skip (by kernel_rfl) (L_skip (by kernel_rfl) (L_pickT (by kernel_rfl) (L_nil (thenQ_normal (W_true (by kernel_rfl) (W_seq (W_region (L_as (L_as (L_nil (thenQ_normal (W_ret (thenQ_ret ?_)))))))))))))))))))))
      refine end_ret [.tmp 2, .tmp 3] [(.int .i32 0), (.int .i64 40)] rfl rfl ⟨by kernel_rfl, by kernel_rfl, trivial⟩ ?_
      have hE : ((0 : Int) = (hexF s).1) ∧ ((40 : Int) = (hexF s).2) := ⟨(by (rw [hexF_len (by omega)]; done)), (by (rw [hexF_len (by omega)]; done))⟩
      exact ⟨tup2 (congrArg (Value.int .i32) hE.1) (congrArg (Value.int .i64) hE.2), hb⟩
    · intro h4
      replace h4 : (s).length ≤ 6 := by omega
      refine L_pickF (by kernel_rfl) (L_mv (L_want (by kernel_rfl) (L_mv (L_want (by kernel_rfl) (L_slen 9 s rfl Tryd.underlying9 (by kernel_rfl) (L_want (by kernel_rfl) (L_cmp .i64 (((s).length : Nat) : Int) ((4 : Nat) : Int) (4 < (s).length) rfl (cmpN_gt ((s).length) 4) (by kernel_rfl) (by kernel_rfl) ?_ ?_)))))))
      · intro h5
        replace h5 : 4 < (s).length := by omega
        refine L_want (by kernel_rfl) (L_mv (L_want (by kernel_rfl) (L_mv (L_want (by kernel_rfl) ?_))))
        have hz := get_some s 0 (by omega); obtain ⟨c6, hc7⟩ := hz
        have := c6.toNat_lt
        have hdr := digitV_range c6.toNat
        have hib := ibF_tab c6
        refine L_sindex (k := .i64) s 0 c6 Tryd.underlying9 hc7 (by kernel_rfl) (by kernel_rfl) (L_want (by kernel_rfl) (L_cmp .u8 ((c6.toNat : Nat) : Int) ((48 : Nat) : Int) (c6.toNat = 48) rfl (cmpN_eq c6.toNat 48) (by kernel_rfl) (by kernel_rfl) ?_ ?_))
        · intro h8
          replace h8 : c6.toNat = 48 := by omega
          refine L_want (by kernel_rfl) (L_pickT (by kernel_rfl) (L_pickF (by kernel_rfl) (L_nil (thenQ_normal (W_true (by kernel_rfl) (W_seq (W_region (L_as (L_as (L_nil (thenQ_normal (W_ret (thenQ_ret ?_)))))))))))))
          refine end_ret [.tmp 2, .tmp 3] [(.int .i32 0), (.int .i64 40)] rfl rfl ⟨by kernel_rfl, by kernel_rfl, trivial⟩ ?_
          have hE : ((0 : Int) = (hexF s).1) ∧ ((40 : Int) = (hexF s).2) := ⟨(by (rw [hexF_zero (by omega) (by assumption) (by omega)]; done)), (by (rw [hexF_zero (by omega) (by assumption) (by omega)]; done))⟩
          exact ⟨tup2 (congrArg (Value.int .i32) hE.1) (congrArg (Value.int .i64) hE.2), hb⟩
        · intro h9
          replace h9 : c6.toNat ≠ 48 := by omega
          refine L_want (by kernel_rfl) (L_pickT (by kernel_rfl) (L_pickF (by kernel_rfl) (L_nil (thenQ_normal (W_false (by kernel_rfl) (W_skip (thenQ_normal (W_seq (W_region (L_as (L_nil (thenQ_normal (W_seq (W_seq (W_region (L_mv (L_slen 9 s rfl Tryd.underlying9 (by kernel_rfl) (L_mv (L_nil (thenQ_normal (W_block ?_)))))))))))))))))))))
          refine W_loop (fun m s0 w0 => ∃ (i : Nat) (n : Nat), (m = s.length - i) ∧ (s0.ds = []) ∧ (s0.f 0 = (S s)) ∧ (s0.f 26 = (.int .i64 (((s).length : Nat) : Int))) ∧ (s0.f 4 = (.int .i32 ((n : Nat) : Int))) ∧ (s0.f 27 = (.int .i64 ((i : Nat) : Int))) ∧ (Below w.heap.size w w0) ∧ (w.heap.size ≤ w0.heap.size) ∧ (i ≤ s.length) ∧ (n < 16 ^ i) ∧ (hexV (s.drop i) n = hexV s 0)) _ ⟨0, 0, rfl, by kernel_rfl, by kernel_rfl, by kernel_rfl, by kernel_rfl, by kernel_rfl, hb, hs, by omega, by decide, rfl⟩ ?_
          rintro m10 s11 w12 ⟨i, n, hm, hds, f_0, f_26, f_4, f_27, hb, hs, i1, i2, i3⟩
          refine W_set 0 _ f_0 (W_set 26 _ f_26 (W_set 4 _ f_4 (W_set 27 _ f_27 ?_)))
          clear f_0 f_26 f_4 f_27
          have hp5 : i ≤ 5 → n < 1048576 := pow16 i2
          have hp6 : i ≤ 6 → n < 16777216 := pow166 i2
          refine W_seq (W_region (L_cmp .i64 ((i : Nat) : Int) (((s).length : Nat) : Int) (i < (s).length) rfl (cmpN_lt i ((s).length)) (by kernel_rfl) (by kernel_rfl) ?_ ?_))
          · intro h13
            replace h13 : i < (s).length := by omega
            refine L_nil (thenQ_normal (W_seq (W_true (by kernel_rfl) (W_skip (thenQ_normal (W_seq (W_block (W_seq (W_region (L_mv (L_as (L_nil (thenQ_normal (W_seq (W_region (L_mv (L_mv ?_)))))))))))))))))
            have hz := get_some s i (by omega); obtain ⟨c14, hc15⟩ := hz
            have := c14.toNat_lt
            have hdr := digitV_range c14.toNat
            have hib := ibF_tab c14
            refine L_sindex (k := .i64) s i c14 Tryd.underlying9 hc15 (by kernel_rfl) (by kernel_rfl) (L_call 47 [(S ([48, 49, 50, 51, 52, 53, 54, 55, 56, 57, 65, 66, 67, 68, 69, 70] : List UInt8)), (.int .u8 ((c14.toNat : Nat) : Int))] (by kernel_rfl) (by kernel_rfl) (c_strings_IndexByte ([48, 49, 50, 51, 52, 53, 54, 55, 56, 57, 65, 66, 67, 68, 69, 70] : List UInt8) ((c14.toNat : Nat) : Int) _ ) ?_)
            rintro _ w16 ⟨rfl, hB17⟩
            replace hb := hb.trans (hB17.mono hs)
            replace hs := Nat.le_trans hs (hB17.size)
            have := ib_range ([48, 49, 50, 51, 52, 53, 54, 55, 56, 57, 65, 66, 67, 68, 69, 70] : List UInt8) ((c14.toNat : Nat) : Int)
            refine L_as (L_nil (thenQ_normal (W_seq (W_seq (W_region (L_mv (L_cmp .i64 (ibF ([48, 49, 50, 51, 52, 53, 54, 55, 56, 57, 65, 66, 67, 68, 69, 70] : List UInt8) ((c14.toNat : Nat) : Int)) 0 ((ibF ([48, 49, 50, 51, 52, 53, 54, 55, 56, 57, 65, 66, 67, 68, 69, 70] : List UInt8) ((c14.toNat : Nat) : Int)) < 0) rfl (cmp_lt (ibF ([48, 49, 50, 51, 52, 53, 54, 55, 56, 57, 65, 66, 67, 68, 69, 70] : List UInt8) ((c14.toNat : Nat) : Int)) 0) (by kernel_rfl) (by kernel_rfl) ?_ ?_)))))))
            · intro h19
              replace h19 : (ibF ([48, 49, 50, 51, 52, 53, 54, 55, 56, 57, 65, 66, 67, 68, 69, 70] : List UInt8) ((c14.toNat : Nat) : Int)) < 0 := by omega
              refine L_nil (thenQ_normal (W_true (by kernel_rfl) (W_seq (W_region (L_as (L_as (L_nil (thenQ_normal (W_ret (thenQ_ret (blkQ_ret (thenQ_ret (thenQ_ret (blkQ_ret (thenQ_ret ?_)))))))))))))))
              refine end_ret [.tmp 2, .tmp 3] [(.int .i32 0), (.int .i64 40)] rfl hds ⟨by kernel_rfl, by kernel_rfl, trivial⟩ ?_
              have hE : ((0 : Int) = (hexF s).1) ∧ ((40 : Int) = (hexF s).2) := ⟨(by (rw [hexF_bad i3 (by assumption) (by omega)]; done)), (by (rw [hexF_bad i3 (by assumption) (by omega)]; done))⟩
              exact ⟨tup2 (congrArg (Value.int .i32) hE.1) (congrArg (Value.int .i64) hE.2), hb⟩
            · intro h20
              replace h20 : 0 ≤ (ibF ([48, 49, 50, 51, 52, 53, 54, 55, 56, 57, 65, 66, 67, 68, 69, 70] : List UInt8) ((c14.toNat : Nat) : Int)) := by omega
              refine L_nil (thenQ_normal (W_false (by kernel_rfl) (W_skip (thenQ_normal (W_region (L_mv (L_shl (k := .i32) (yk := .u64) ((n : Nat) : Int) (((16 * n) : Nat) : Int) 4 16 rfl (by kernel_rfl) (by kernel_rfl) (by kernel_rfl) (by rw [wrap_i32 _ (by omega) (by omega)]; omega) (L_mv (L_conv (k := .i64) (ibF ([48, 49, 50, 51, 52, 53, 54, 55, 56, 57, 65, 66, 67, 68, 69, 70] : List UInt8) ((c14.toNat : Nat) : Int)) (ibF ([48, 49, 50, 51, 52, 53, 54, 55, 56, 57, 65, 66, 67, 68, 69, 70] : List UInt8) ((c14.toNat : Nat) : Int)) (by kernel_rfl) Tryd.underlying21 (by kernel_rfl) (wrap_i32 _ (by omega) (by omega)) (L_orD (((16 * n) : Nat) : Int) (ibF ([48, 49, 50, 51, 52, 53, 54, 55, 56, 57, 65, 66, 67, 68, 69, 70] : List UInt8) ((c14.toNat : Nat) : Int)) n ((ibF ([48, 49, 50, 51, 52, 53, 54, 55, 56, 57, 65, 66, 67, 68, 69, 70] : List UInt8) ((c14.toNat : Nat) : Int)).toNat) (by omega) (by omega) (by kernel_rfl) (by kernel_rfl) (L_as (L_nil (blkQ_normal (thenQ_normal (W_region (L_addN i 1 (by omega) (by kernel_rfl) (by kernel_rfl) (L_mv (L_nil ?_))))))))))))))))))
              refine thenQ_normal ⟨_, ?_, (i + 1), (16 * n + ((ibF ([48, 49, 50, 51, 52, 53, 54, 55, 56, 57, 65, 66, 67, 68, 69, 70] : List UInt8) ((c14.toNat : Nat) : Int)).toNat)), rfl, hds, by kernel_rfl, by kernel_rfl, by kernel_rfl, by kernel_rfl, hb, hs, ?_, ?_, ?_⟩
              · omega
              · omega
              · rw [hib]; exact pow16s i2 (by omega)
              · rw [hib]; exact hexV_step i3 (by assumption) (by omega)
          · intro h21
            replace h21 : (s).length ≤ i := by omega
            refine L_nil (thenQ_normal (W_seq (W_false (by kernel_rfl) (W_exit (thenQ_exit (thenQ_exit (blkQ_exit (thenQ_normal (W_seq (W_seq (W_region (L_mv (L_cmp .i32 ((n : Nat) : Int) ((1114111 : Nat) : Int) (1114111 < n) rfl (cmpN_gt n 1114111) (by kernel_rfl) (by kernel_rfl) ?_ ?_)))))))))))))
            · intro h22
              replace h22 : 1114111 < n := by omega
              refine L_nil (thenQ_normal (W_true (by kernel_rfl) (W_seq (W_region (L_as (L_as (L_nil (thenQ_normal (W_ret (thenQ_ret ?_))))))))))
              refine end_ret [.tmp 2, .tmp 3] [(.int .i32 0), (.int .i64 40)] rfl hds ⟨by kernel_rfl, by kernel_rfl, trivial⟩ ?_
              have hE : ((0 : Int) = (hexF s).1) ∧ ((40 : Int) = (hexF s).2) := ⟨(by (rw [hexF_big (hexV_end i3 (by omega)) (by omega)]; done)), (by (rw [hexF_big (hexV_end i3 (by omega)) (by omega)]; done))⟩
              exact ⟨tup2 (congrArg (Value.int .i32) hE.1) (congrArg (Value.int .i64) hE.2), hb⟩
            · intro h23
              replace h23 : n ≤ 1114111 := by omega
              refine L_nil (thenQ_normal (W_false (by kernel_rfl) (W_skip (thenQ_normal (W_seq (W_region (L_mv (L_as (L_as (L_nil (thenQ_normal (W_ret ?_))))))))))))
              refine end_ret [.tmp 2, .tmp 3] [(.int .i32 ((n : Nat) : Int)), (.int .i64 0)] rfl hds ⟨by kernel_rfl, by kernel_rfl, trivial⟩ ?_
              have hE : ((((n : Nat) : Int) : Int) = (hexF s).1) ∧ ((0 : Int) = (hexF s).2) := ⟨(by (rw [hexF_ok (hexV_end i3 (by omega)) (by omega) (by omega) (by omega) (.inr ⟨_, by assumption, by omega⟩)]; done)), (by (rw [hexF_ok (hexV_end i3 (by omega)) (by omega) (by omega) (by omega) (.inr ⟨_, by assumption, by omega⟩)]; done))⟩
              exact ⟨tup2 (congrArg (Value.int .i32) hE.1) (congrArg (Value.int .i64) hE.2), hb⟩
      · intro h24
        replace h24 : (s).length ≤ 4 := by omega
        refine L_want (by kernel_rfl) (L_mv (L_skip (by kernel_rfl) (L_skip (by kernel_rfl) (L_skip (by kernel_rfl) (L_want (by kernel_rfl) (L_pickF (by kernel_rfl) (L_pickF (by kernel_rfl) (L_nil (thenQ_normal (W_false (by kernel_rfl) (W_skip (thenQ_normal (W_seq (W_region (L_as (L_nil (thenQ_normal (W_seq (W_seq (W_region (L_mv (L_slen 9 s rfl Tryd.underlying9 (by kernel_rfl) (L_mv (L_nil (thenQ_normal (W_block ?_))))))))))))))))))))))))))
        refine W_loop (fun m s0 w0 => ∃ (i : Nat) (n : Nat), (m = s.length - i) ∧ (s0.ds = []) ∧ (s0.f 0 = (S s)) ∧ (s0.f 26 = (.int .i64 (((s).length : Nat) : Int))) ∧ (s0.f 4 = (.int .i32 ((n : Nat) : Int))) ∧ (s0.f 27 = (.int .i64 ((i : Nat) : Int))) ∧ (Below w.heap.size w w0) ∧ (w.heap.size ≤ w0.heap.size) ∧ (i ≤ s.length) ∧ (n < 16 ^ i) ∧ (hexV (s.drop i) n = hexV s 0)) _ ⟨0, 0, rfl, by kernel_rfl, by kernel_rfl, by kernel_rfl, by kernel_rfl, by kernel_rfl, hb, hs, by omega, by decide, rfl⟩ ?_
        rintro m25 s26 w27 ⟨i, n, hm, hds, f_0, f_26, f_4, f_27, hb, hs, i1, i2, i3⟩
        refine W_set 0 _ f_0 (W_set 26 _ f_26 (W_set 4 _ f_4 (W_set 27 _ f_27 ?_)))
        clear f_0 f_26 f_4 f_27
        have hp5 : i ≤ 5 → n < 1048576 := pow16 i2
        have hp6 : i ≤ 6 → n < 16777216 := pow166 i2
        refine W_seq (W_region (L_cmp .i64 ((i : Nat) : Int) (((s).length : Nat) : Int) (i < (s).length) rfl (cmpN_lt i ((s).length)) (by kernel_rfl) (by kernel_rfl) ?_ ?_))
        · intro h28
          replace h28 : i < (s).length := by omega
          refine L_nil (thenQ_normal (W_seq (W_true (by kernel_rfl) (W_skip (thenQ_normal (W_seq (W_block (W_seq (W_region (L_mv (L_as (L_nil (thenQ_normal (W_seq (W_region (L_mv (L_mv ?_)))))))))))))))))
          have hz := get_some s i (by omega); obtain ⟨c29, hc30⟩ := hz
          have := c29.toNat_lt
          have hdr := digitV_range c29.toNat
          have hib := ibF_tab c29
          refine L_sindex (k := .i64) s i c29 Tryd.underlying9 hc30 (by kernel_rfl) (by kernel_rfl) (L_call 47 [(S ([48, 49, 50, 51, 52, 53, 54, 55, 56, 57, 65, 66, 67, 68, 69, 70] : List UInt8)), (.int .u8 ((c29.toNat : Nat) : Int))] (by kernel_rfl) (by kernel_rfl) (c_strings_IndexByte ([48, 49, 50, 51, 52, 53, 54, 55, 56, 57, 65, 66, 67, 68, 69, 70] : List UInt8) ((c29.toNat : Nat) : Int) _ ) ?_)
          rintro _ w31 ⟨rfl, hB32⟩
          replace hb := hb.trans (hB32.mono hs)
          replace hs := Nat.le_trans hs (hB32.size)
          have := ib_range ([48, 49, 50, 51, 52, 53, 54, 55, 56, 57, 65, 66, 67, 68, 69, 70] : List UInt8) ((c29.toNat : Nat) : Int)
          refine L_as (L_nil (thenQ_normal (W_seq (W_seq (W_region (L_mv (L_cmp .i64 (ibF ([48, 49, 50, 51, 52, 53, 54, 55, 56, 57, 65, 66, 67, 68, 69, 70] : List UInt8) ((c29.toNat : Nat) : Int)) 0 ((ibF ([48, 49, 50, 51, 52, 53, 54, 55, 56, 57, 65, 66, 67, 68, 69, 70] : List UInt8) ((c29.toNat : Nat) : Int)) < 0) rfl (cmp_lt (ibF ([48, 49, 50, 51, 52, 53, 54, 55, 56, 57, 65, 66, 67, 68, 69, 70] : List UInt8) ((c29.toNat : Nat) : Int)) 0) (by kernel_rfl) (by kernel_rfl) ?_ ?_)))))))
          · intro h34
            replace h34 : (ibF ([48, 49, 50, 51, 52, 53, 54, 55, 56, 57, 65, 66, 67, 68, 69, 70] : List UInt8) ((c29.toNat : Nat) : Int)) < 0 := by omega
            refine L_nil (thenQ_normal (W_true (by kernel_rfl) (W_seq (W_region (L_as (L_as (L_nil (thenQ_normal (W_ret (thenQ_ret (blkQ_ret (thenQ_ret (thenQ_ret (blkQ_ret (thenQ_ret ?_)))))))))))))))
            refine end_ret [.tmp 2, .tmp 3] [(.int .i32 0), (.int .i64 40)] rfl hds ⟨by kernel_rfl, by kernel_rfl, trivial⟩ ?_
            have hE : ((0 : Int) = (hexF s).1) ∧ ((40 : Int) = (hexF s).2) := ⟨(by (rw [hexF_bad i3 (by assumption) (by omega)]; done)), (by (rw [hexF_bad i3 (by assumption) (by omega)]; done))⟩
            exact ⟨tup2 (congrArg (Value.int .i32) hE.1) (congrArg (Value.int .i64) hE.2), hb⟩
          · intro h35
            replace h35 : 0 ≤ (ibF ([48, 49, 50, 51, 52, 53, 54, 55, 56, 57, 65, 66, 67, 68, 69, 70] : List UInt8) ((c29.toNat : Nat) : Int)) := by omega
            refine L_nil (thenQ_normal (W_false (by kernel_rfl) (W_skip (thenQ_normal (W_region (L_mv (L_shl (k := .i32) (yk := .u64) ((n : Nat) : Int) (((16 * n) : Nat) : Int) 4 16 rfl (by kernel_rfl) (by kernel_rfl) (by kernel_rfl) (by rw [wrap_i32 _ (by omega) (by omega)]; omega) (L_mv (L_conv (k := .i64) (ibF ([48, 49, 50, 51, 52, 53, 54, 55, 56, 57, 65, 66, 67, 68, 69, 70] : List UInt8) ((c29.toNat : Nat) : Int)) (ibF ([48, 49, 50, 51, 52, 53, 54, 55, 56, 57, 65, 66, 67, 68, 69, 70] : List UInt8) ((c29.toNat : Nat) : Int)) (by kernel_rfl) Tryd.underlying21 (by kernel_rfl) (wrap_i32 _ (by omega) (by omega)) (L_orD (((16 * n) : Nat) : Int) (ibF ([48, 49, 50, 51, 52, 53, 54, 55, 56, 57, 65, 66, 67, 68, 69, 70] : List UInt8) ((c29.toNat : Nat) : Int)) n ((ibF ([48, 49, 50, 51, 52, 53, 54, 55, 56, 57, 65, 66, 67, 68, 69, 70] : List UInt8) ((c29.toNat : Nat) : Int)).toNat) (by omega) (by omega) (by kernel_rfl) (by kernel_rfl) (L_as (L_nil (blkQ_normal (thenQ_normal (W_region (L_addN i 1 (by omega) (by kernel_rfl) (by kernel_rfl) (L_mv (L_nil ?_))))))))))))))))))
            refine thenQ_normal ⟨_, ?_, (i + 1), (16 * n + ((ibF ([48, 49, 50, 51, 52, 53, 54, 55, 56, 57, 65, 66, 67, 68, 69, 70] : List UInt8) ((c29.toNat : Nat) : Int)).toNat)), rfl, hds, by kernel_rfl, by kernel_rfl, by kernel_rfl, by kernel_rfl, hb, hs, ?_, ?_, ?_⟩
            · omega
            · omega
            · rw [hib]; exact pow16s i2 (by omega)
            · rw [hib]; exact hexV_step i3 (by assumption) (by omega)
        · intro h36
          replace h36 : (s).length ≤ i := by omega
          refine L_nil (thenQ_normal (W_seq (W_false (by kernel_rfl) (W_exit (thenQ_exit (thenQ_exit (blkQ_exit (thenQ_normal (W_seq (W_seq (W_region (L_mv (L_cmp .i32 ((n : Nat) : Int) ((1114111 : Nat) : Int) (1114111 < n) rfl (cmpN_gt n 1114111) (by kernel_rfl) (by kernel_rfl) ?_ ?_)))))))))))))
          · intro h37
            replace h37 : 1114111 < n := by omega
            refine L_nil (thenQ_normal (W_true (by kernel_rfl) (W_seq (W_region (L_as (L_as (L_nil (thenQ_normal (W_ret (thenQ_ret ?_))))))))))
            refine end_ret [.tmp 2, .tmp 3] [(.int .i32 0), (.int .i64 40)] rfl hds ⟨by kernel_rfl, by kernel_rfl, trivial⟩ ?_
            have hE : ((0 : Int) = (hexF s).1) ∧ ((40 : Int) = (hexF s).2) := ⟨(by (exfalso; omega)), (by (exfalso; omega))⟩
            exact ⟨tup2 (congrArg (Value.int .i32) hE.1) (congrArg (Value.int .i64) hE.2), hb⟩
          · intro h38
            replace h38 : n ≤ 1114111 := by omega
            refine L_nil (thenQ_normal (W_false (by kernel_rfl) (W_skip (thenQ_normal (W_seq (W_region (L_mv (L_as (L_as (L_nil (thenQ_normal (W_ret ?_))))))))))))
            refine end_ret [.tmp 2, .tmp 3] [(.int .i32 ((n : Nat) : Int)), (.int .i64 0)] rfl hds ⟨by kernel_rfl, by kernel_rfl, trivial⟩ ?_
            have hE : ((((n : Nat) : Int) : Int) = (hexF s).1) ∧ ((0 : Int) = (hexF s).2) := ⟨(by (rw [hexF_ok (hexV_end i3 (by omega)) (by omega) (by omega) (by omega) (.inl (by omega))]; done)), (by (rw [hexF_ok (hexV_end i3 (by omega)) (by omega) (by omega) (by omega) (.inl (by omega))]; done))⟩
            exact ⟨tup2 (congrArg (Value.int .i32) hE.1) (congrArg (Value.int .i64) hE.2), hb⟩

set_option maxHeartbeats 4000000 in
set_option maxRecDepth 100000 in
theorem c_furrowref04_Digit (b : Int) (w : World) (hb0 : 0 ≤ b) :
    Calls Tryd.prog 49 #[(.int .u8 b)] w (Ret fun v w' => v = (.int .i64 (digitV b.toNat)) ∧ Below w.heap.size w w') := by
  refine enter (args := [(.int .u8 b)]) Tryd.func49 rfl (by kernel_rfl : _ = 13) (by kernel_rfl) ?_
  have hb := Below.refl w.heap.size w
  have hs : w.heap.size ≤ w.heap.size := Nat.le_refl _
  refine W_seq (W_region (L_as (L_nil (thenQ_normal (W_seq (W_seq (W_region (L_as (L_nil (thenQ_normal (W_block ?_)))))))))))
  refine W_loop (fun m s0 w0 => ∃ (i : Nat), (m = 16 - i) ∧ (s0.ds = []) ∧ (s0.f 0 = (.int .u8 b)) ∧ (s0.f 3 = (.int .i64 ((i : Nat) : Int))) ∧ (Below w.heap.size w w0) ∧ (w.heap.size ≤ w0.heap.size) ∧ (i ≤ 16) ∧ (digInv b i)) _ ⟨0, rfl, by kernel_rfl, by kernel_rfl, by kernel_rfl, hb, hs, by omega, digInv_zero b⟩ ?_
  rintro m1 s2 w3 ⟨i, hm, hds, f_0, f_3, hb, hs, i1, i3⟩
  refine W_set 0 _ f_0 (W_set 3 _ f_3 ?_)
  clear f_0 f_3
  refine W_seq (W_seq (W_region (L_mv (L_cmp .i64 ((i : Nat) : Int) ((16 : Nat) : Int) (i < 16) rfl (cmpN_lt i 16) (by kernel_rfl) (by kernel_rfl) ?_ ?_))))
  · intro h4
    replace h4 : i < 16 := by omega
    refine L_nil (thenQ_normal (W_true (by kernel_rfl) (W_skip (thenQ_normal (W_seq (W_block (W_seq (W_region (L_mv ?_)))))))))
    have hz := get_some ([48, 49, 50, 51, 52, 53, 54, 55, 56, 57, 65, 66, 67, 68, 69, 70] : List UInt8) i (by first | omega | (simp; omega)); obtain ⟨c5, hc6⟩ := hz
    have := c5.toNat_lt
    refine L_sindex (k := .i64) ([48, 49, 50, 51, 52, 53, 54, 55, 56, 57, 65, 66, 67, 68, 69, 70] : List UInt8) i c5 Tryd.underlying9 hc6 (by kernel_rfl) (by kernel_rfl) (L_mv (L_cmp .u8 ((c5.toNat : Nat) : Int) b (((c5.toNat : Nat) : Int) = b) rfl (cmp_eq ((c5.toNat : Nat) : Int) b) (by kernel_rfl) (by kernel_rfl) ?_ ?_))
    · intro h7
      replace h7 : ((c5.toNat : Nat) : Int) = b := by omega
      refine L_nil (thenQ_normal (W_true (by kernel_rfl) (W_seq (W_region (L_mv (L_as (L_nil (thenQ_normal (W_ret (blkQ_ret (thenQ_ret (thenQ_ret (blkQ_ret (thenQ_ret ?_))))))))))))))
      refine end_ret [.tmp 2] [(.int .i64 ((i : Nat) : Int))] rfl hds ⟨by kernel_rfl, trivial⟩ ?_
      have e0 : (((i : Nat) : Int) : Int) = (digitV b.toNat) := by (have hf := dig_found (by assumption); rw [← hf]; congr 1; omega)
      exact ⟨congrArg (Value.int .i64) e0, hb⟩
    · intro h8
      replace h8 : ((c5.toNat : Nat) : Int) ≠ b := by omega
      refine L_nil (thenQ_normal (W_false (by kernel_rfl) (W_skip (blkQ_normal (thenQ_normal (W_region (L_mv (L_addN i 1 (by omega) (by kernel_rfl) (by kernel_rfl) (L_as (L_nil ?_))))))))))
      refine thenQ_normal ⟨_, ?_, (i + 1), rfl, hds, by kernel_rfl, by kernel_rfl, hb, hs, ?_, ?_⟩
      · omega
      · omega
      · exact digInv_succ i3 (by assumption) (by omega)
  · intro h9
    replace h9 : 16 ≤ i := by omega
    refine L_nil (thenQ_normal (W_false (by kernel_rfl) (W_exit (thenQ_exit (thenQ_exit (blkQ_exit (thenQ_normal (W_seq (W_region (L_as (L_nil (thenQ_normal (W_ret ?_)))))))))))))
    refine end_ret [.tmp 2] [(.int .i64 (-1))] rfl hds ⟨by kernel_rfl, trivial⟩ ?_
    have e0 : (-1 : Int) = (digitV b.toNat) := by exact (digInv_end i3 (by omega) hb0).symm
    exact ⟨congrArg (Value.int .i64) e0, hb⟩

set_option maxHeartbeats 4000000 in
set_option maxRecDepth 100000 in
theorem c_furrowref04_Read (s : List UInt8) (w : World) (hs : s.length ≤ 1073741824) :
    Calls Tryd.prog 30 #[(S s)] w (Ret fun v w' => v = (.tuple #[(.int .i32 ((hexF s).1)), (.int .i64 ((hexF s).2))]) ∧ Below w.heap.size w w') := by
  refine enter (args := [(S s)]) Tryd.func30 rfl (by kernel_rfl : _ = 45) (by kernel_rfl) ?_
  have hb := Below.refl w.heap.size w
  have hs : w.heap.size ≤ w.heap.size := Nat.le_refl _
  refine W_seq (W_region (L_as (L_as (L_nil (thenQ_normal (W_seq (W_seq (W_region (L_mv (L_slen 9 s rfl Tryd.underlying9 (by kernel_rfl) (L_cmp .i64 (((s).length : Nat) : Int) ((4 : Nat) : Int) ((s).length < 4) rfl (cmpN_lt ((s).length) 4) (by kernel_rfl) (by kernel_rfl) ?_ ?_)))))))))))
  · intro h1
    replace h1 : (s).length < 4 := by omega
    refine L_mv (L_skip (by kernel_rfl) (L_skip (by kernel_rfl) (L_skip (by kernel_rfl) (L_pickT (by kernel_rfl) (L_nil (thenQ_normal (W_true (by kernel_rfl) (W_seq (W_region (L_as (L_as (L_nil (thenQ_normal (W_ret (thenQ_ret ?_)))))))))))))))
    refine end_ret [.tmp 2, .tmp 3] [(.int .i32 0), (.int .i64 40)] rfl rfl ⟨by kernel_rfl, by kernel_rfl, trivial⟩ ?_
    have hE : ((0 : Int) = (hexF s).1) ∧ ((40 : Int) = (hexF s).2) := ⟨(by (rw [hexF_len (by omega)]; done)), (by (rw [hexF_len (by omega)]; done))⟩
    exact ⟨tup2 (congrArg (Value.int .i32) hE.1) (congrArg (Value.int .i64) hE.2), hb⟩
  · intro h2
    replace h2 : 4 ≤ (s).length := by omega
    refine L_mv (L_want (by kernel_rfl) (L_mv (L_want (by kernel_rfl) (L_slen 9 s rfl Tryd.underlying9 (by kernel_rfl) (L_want (by kernel_rfl) (L_cmp .i64 (((s).length : Nat) : Int) ((6 : Nat) : Int) (6 < (s).length) rfl (cmpN_gt ((s).length) 6) (by kernel_rfl) (by kernel_rfl) ?_ ?_))))))
    · intro h3
      replace h3 : 6 < (s).length := by omega
      refine L_pickF (by kernel_rfl) (L_nil (thenQ_normal (W_true (by kernel_rfl) (W_seq (W_region (L_as (L_as (L_nil (thenQ_normal (W_ret (thenQ_ret ?_)))))))))))
      refine end_ret [.tmp 2, .tmp 3] [(.int .i32 0), (.int .i64 40)] rfl rfl ⟨by kernel_rfl, by kernel_rfl, trivial⟩ ?_
      have hE : ((0 : Int) = (hexF s).1) ∧ ((40 : Int) = (hexF s).2) := ⟨(by (rw [hexF_len (by omega)]; done)), (by (rw [hexF_len (by omega)]; done))⟩
      exact ⟨tup2 (congrArg (Value.int .i32) hE.1) (congrArg (Value.int .i64) hE.2), hb⟩
    · intro h4
      replace h4 : (s).length ≤ 6 := by omega
      refine L_pickF (by kernel_rfl) (L_nil (thenQ_normal (W_false (by kernel_rfl) (W_skip (thenQ_normal (W_seq (W_region (L_as (L_nil (thenQ_normal (W_seq (W_seq (W_region (L_as (L_nil (thenQ_normal (W_block ?_)))))))))))))))))
      refine W_loop (fun m s0 w0 => ∃ (i : Nat) (z : Int), (m = s.length - i) ∧ (s0.ds = []) ∧ (s0.f 0 = (S s)) ∧ (s0.f 4 = (.int .i64 z)) ∧ (s0.f 5 = (.int .i64 ((i : Nat) : Int))) ∧ (Below w.heap.size w w0) ∧ (w.heap.size ≤ w0.heap.size) ∧ (0 ≤ z) ∧ (i ≤ s.length) ∧ (z.toNat < 16 ^ i) ∧ (hexV (s.drop i) z.toNat = hexV s 0)) _ ⟨0, 0, rfl, by kernel_rfl, by kernel_rfl, by kernel_rfl, by kernel_rfl, hb, hs, by omega, by omega, by decide, rfl⟩ ?_
      rintro m5 s6 w7 ⟨i, z, hm, hds, f_0, f_4, f_5, hb, hs, i0, i1, i2, i3⟩
      refine W_set 0 _ f_0 (W_set 4 _ f_4 (W_set 5 _ f_5 ?_))
      clear f_0 f_4 f_5
      have hp5 : i ≤ 5 → z.toNat < 1048576 := pow16 i2
      have hp6 : i ≤ 6 → z.toNat < 16777216 := pow166 i2
      refine W_seq (W_seq (W_region (L_mv (L_mv (L_slen 9 s rfl Tryd.underlying9 (by kernel_rfl) (L_cmp .i64 ((i : Nat) : Int) (((s).length : Nat) : Int) (i < (s).length) rfl (cmpN_lt i ((s).length)) (by kernel_rfl) (by kernel_rfl) ?_ ?_))))))
      · intro h8
        replace h8 : i < (s).length := by omega
        refine L_nil (thenQ_normal (W_true (by kernel_rfl) (W_skip (thenQ_normal (W_seq (W_block (W_seq (W_region (L_mv (L_mv ?_))))))))))
        have hz := get_some s i (by omega); obtain ⟨c9, hc10⟩ := hz
        have := c9.toNat_lt
        have hdt : digitV ((c9.toNat : Nat) : Int).toNat = digitV c9.toNat := rfl
        have hdr := digitV_range c9.toNat
        have hzz : ∀ q, q = ((z * 16) + (digitV ((c9.toNat : Nat) : Int).toNat)) → 0 ≤ digitV c9.toNat → q.toNat = 16 * z.toNat + (digitV c9.toNat).toNat := fun q h1 h2 => by omega
        refine L_sindex (k := .i64) s i c9 Tryd.underlying9 hc10 (by kernel_rfl) (by kernel_rfl) (L_call 49 [(.int .u8 ((c9.toNat : Nat) : Int))] (by kernel_rfl) (by kernel_rfl) (c_furrowref04_Digit ((c9.toNat : Nat) : Int) _ (by omega)) ?_)
        rintro _ w11 ⟨rfl, hB12⟩
        replace hb := hb.trans (hB12.mono hs)
        replace hs := Nat.le_trans hs (hB12.size)
        have := digitV_range ((c9.toNat : Nat) : Int).toNat
        refine L_as (L_nil (thenQ_normal (W_seq (W_seq (W_region (L_mv (L_cmp .i64 (digitV ((c9.toNat : Nat) : Int).toNat) 0 ((digitV ((c9.toNat : Nat) : Int).toNat) < 0) rfl (cmp_lt (digitV ((c9.toNat : Nat) : Int).toNat) 0) (by kernel_rfl) (by kernel_rfl) ?_ ?_)))))))
        · intro h14
          replace h14 : (digitV ((c9.toNat : Nat) : Int).toNat) < 0 := by omega
          refine L_nil (thenQ_normal (W_true (by kernel_rfl) (W_seq (W_region (L_as (L_as (L_nil (thenQ_normal (W_ret (thenQ_ret (blkQ_ret (thenQ_ret (thenQ_ret (blkQ_ret (thenQ_ret ?_)))))))))))))))
          refine end_ret [.tmp 2, .tmp 3] [(.int .i32 0), (.int .i64 40)] rfl hds ⟨by kernel_rfl, by kernel_rfl, trivial⟩ ?_
          have hE : ((0 : Int) = (hexF s).1) ∧ ((40 : Int) = (hexF s).2) := ⟨(by (rw [hexF_bad i3 (by assumption) (by omega)]; done)), (by (rw [hexF_bad i3 (by assumption) (by omega)]; done))⟩
          exact ⟨tup2 (congrArg (Value.int .i32) hE.1) (congrArg (Value.int .i64) hE.2), hb⟩
        · intro h15
          replace h15 : 0 ≤ (digitV ((c9.toNat : Nat) : Int).toNat) := by omega
          refine L_nil (thenQ_normal (W_false (by kernel_rfl) (W_skip (thenQ_normal (W_region (L_mv (L_arith z 16 (z * 16) rfl (by kernel_rfl) (by kernel_rfl) (wrap_i64 _ (by simp only [arithZ]; omega) (by simp only [arithZ]; omega)) (L_mv (L_arith (z * 16) (digitV ((c9.toNat : Nat) : Int).toNat) ((z * 16) + (digitV ((c9.toNat : Nat) : Int).toNat)) rfl (by kernel_rfl) (by kernel_rfl) (wrap_i64 _ (by simp only [arithZ]; omega) (by simp only [arithZ]; omega)) (L_as (L_nil (blkQ_normal (thenQ_normal (W_region (L_mv (L_addN i 1 (by omega) (by kernel_rfl) (by kernel_rfl) (L_as (L_nil ?_))))))))))))))))))
          refine thenQ_normal ⟨_, ?_, (i + 1), ((z * 16) + (digitV ((c9.toNat : Nat) : Int).toNat)), rfl, hds, by kernel_rfl, by kernel_rfl, by kernel_rfl, hb, hs, ?_, ?_, ?_, ?_⟩
          · omega
          · omega
          · omega
          · rw [hzz _ rfl (by omega)]; exact pow16s i2 (by omega)
          · rw [hzz _ rfl (by omega)]; exact hexV_step i3 (by assumption) (by omega)
      · intro h16
        replace h16 : (s).length ≤ i := by omega
        refine L_nil (thenQ_normal (W_false (by kernel_rfl) (W_exit (thenQ_exit (thenQ_exit (blkQ_exit (thenQ_normal (W_seq (W_seq (W_region (L_mv (L_cmp .i64 z 1114111 (1114111 < z) rfl (cmp_gt z 1114111) (by kernel_rfl) (by kernel_rfl) ?_ ?_))))))))))))
        · intro h17
          replace h17 : 1114111 < z := by omega
          refine L_mv (L_skip (by kernel_rfl) (L_skip (by kernel_rfl) (L_skip (by kernel_rfl) (L_skip (by kernel_rfl) (L_skip (by kernel_rfl) (L_skip (by kernel_rfl) (L_skip (by kernel_rfl) (L_skip (by kernel_rfl) (L_pickT (by kernel_rfl) (L_nil (thenQ_normal (W_true (by kernel_rfl) (W_seq (W_region (L_as (L_as (L_nil (thenQ_normal (W_ret (thenQ_ret ?_))))))))))))))))))))
          refine end_ret [.tmp 2, .tmp 3] [(.int .i32 0), (.int .i64 40)] rfl hds ⟨by kernel_rfl, by kernel_rfl, trivial⟩ ?_
          have hE : ((0 : Int) = (hexF s).1) ∧ ((40 : Int) = (hexF s).2) := ⟨(by (rw [hexF_big (hexV_end i3 (by omega)) (by omega)]; done)), (by (rw [hexF_big (hexV_end i3 (by omega)) (by omega)]; done))⟩
          exact ⟨tup2 (congrArg (Value.int .i32) hE.1) (congrArg (Value.int .i64) hE.2), hb⟩
        · intro h18
          replace h18 : z ≤ 1114111 := by omega
          refine L_mv (L_want (by kernel_rfl) (L_mv (L_want (by kernel_rfl) (L_slen 9 s rfl Tryd.underlying9 (by kernel_rfl) (L_want (by kernel_rfl) (L_cmp .i64 (((s).length : Nat) : Int) ((4 : Nat) : Int) (4 < (s).length) rfl (cmpN_gt ((s).length) 4) (by kernel_rfl) (by kernel_rfl) ?_ ?_))))))
          · intro h19
            replace h19 : 4 < (s).length := by omega
            refine L_want (by kernel_rfl) (L_mv (L_want (by kernel_rfl) (L_mv (L_want (by kernel_rfl) ?_))))
            have hz := get_some s 0 (by omega); obtain ⟨c20, hc21⟩ := hz
            have := c20.toNat_lt
            have hdt : digitV ((c20.toNat : Nat) : Int).toNat = digitV c20.toNat := rfl
            have hdr := digitV_range c20.toNat
            have hzz : ∀ q, q = ((z * 16) + (digitV ((c20.toNat : Nat) : Int).toNat)) → 0 ≤ digitV c20.toNat → q.toNat = 16 * z.toNat + (digitV c20.toNat).toNat := fun q h1 h2 => by omega
            refine L_sindex (k := .i64) s 0 c20 Tryd.underlying9 hc21 (by kernel_rfl) (by kernel_rfl) (L_want (by kernel_rfl) (L_cmp .u8 ((c20.toNat : Nat) : Int) ((48 : Nat) : Int) (c20.toNat = 48) rfl (cmpN_eq c20.toNat 48) (by kernel_rfl) (by kernel_rfl) ?_ ?_))
            · intro h22
              replace h22 : c20.toNat = 48 := by omega
              refine L_want (by kernel_rfl) (L_pickT (by kernel_rfl) (L_pickF (by kernel_rfl) (L_nil (thenQ_normal (W_true (by kernel_rfl) (W_seq (W_region (L_as (L_as (L_nil (thenQ_normal (W_ret (thenQ_ret ?_)))))))))))))
              refine end_ret [.tmp 2, .tmp 3] [(.int .i32 0), (.int .i64 40)] rfl hds ⟨by kernel_rfl, by kernel_rfl, trivial⟩ ?_
              have hE : ((0 : Int) = (hexF s).1) ∧ ((40 : Int) = (hexF s).2) := ⟨(by (rw [hexF_zero (by omega) (by assumption) (by omega)]; done)), (by (rw [hexF_zero (by omega) (by assumption) (by omega)]; done))⟩
              exact ⟨tup2 (congrArg (Value.int .i32) hE.1) (congrArg (Value.int .i64) hE.2), hb⟩
            · intro h23
              replace h23 : c20.toNat ≠ 48 := by omega
              refine L_want (by kernel_rfl) (L_pickT (by kernel_rfl) (L_pickF (by kernel_rfl) (L_nil (thenQ_normal (W_false (by kernel_rfl) (W_skip (thenQ_normal (W_seq (W_region (L_mv (L_conv (k := .i64) z z (by kernel_rfl) Tryd.underlying21 (by kernel_rfl) (wrap_i32 _ (by omega) (by omega)) (L_as (L_as (L_nil (thenQ_normal (W_ret ?_))))))))))))))))
              refine end_ret [.tmp 2, .tmp 3] [(.int .i32 z), (.int .i64 0)] rfl hds ⟨by kernel_rfl, by kernel_rfl, trivial⟩ ?_
              have hE : ((z : Int) = (hexF s).1) ∧ ((0 : Int) = (hexF s).2) := ⟨(by (rw [hexF_ok (hexV_end i3 (by omega)) (by omega) (by omega) (by omega) (.inr ⟨_, by assumption, by omega⟩)]; first | done | exact (Int.toNat_of_nonneg i0).symm)), (by (rw [hexF_ok (hexV_end i3 (by omega)) (by omega) (by omega) (by omega) (.inr ⟨_, by assumption, by omega⟩)]; first | done | exact (Int.toNat_of_nonneg i0).symm))⟩
              exact ⟨tup2 (congrArg (Value.int .i32) hE.1) (congrArg (Value.int .i64) hE.2), hb⟩
          · intro h24
            replace h24 : (s).length ≤ 4 := by omega
            refine L_want (by kernel_rfl) (L_mv (L_skip (by kernel_rfl) (L_skip (by kernel_rfl) (L_skip (by kernel_rfl) (L_want (by kernel_rfl) (L_pickF (by kernel_rfl) (L_pickF (by kernel_rfl) (L_nil (thenQ_normal (W_false (by kernel_rfl) (W_skip (thenQ_normal (W_seq (W_region (L_mv (L_conv (k := .i64) z z (by kernel_rfl) Tryd.underlying21 (by kernel_rfl) (wrap_i32 _ (by omega) (by omega)) (L_as (L_as (L_nil (thenQ_normal (W_ret ?_)))))))))))))))))))))
            refine end_ret [.tmp 2, .tmp 3] [(.int .i32 z), (.int .i64 0)] rfl hds ⟨by kernel_rfl, by kernel_rfl, trivial⟩ ?_
            have hE : ((z : Int) = (hexF s).1) ∧ ((0 : Int) = (hexF s).2) := ⟨(by (rw [hexF_ok (hexV_end i3 (by omega)) (by omega) (by omega) (by omega) (.inl (by omega))]; first | done | exact (Int.toNat_of_nonneg i0).symm)), (by (rw [hexF_ok (hexV_end i3 (by omega)) (by omega) (by omega) (by omega) (.inl (by omega))]; first | done | exact (Int.toNat_of_nonneg i0).symm))⟩
            exact ⟨tup2 (congrArg (Value.int .i32) hE.1) (congrArg (Value.int .i64) hE.2), hb⟩

set_option maxHeartbeats 4000000 in
set_option maxRecDepth 100000 in
theorem c_furrowref04_Show (r : Int) (w : World) :
    Calls Tryd.prog 44 #[(.int .i32 r)] w (Ret fun v w' => v = (.tuple #[(S ((showF r).1)), (.int .i64 ((showF r).2))]) ∧ Below w.heap.size w w') := by
  refine enter (args := [(.int .i32 r)]) Tryd.func44 rfl (by kernel_rfl : _ = 31) (by kernel_rfl) ?_
  have hb := Below.refl w.heap.size w
  have hs : w.heap.size ≤ w.heap.size := Nat.le_refl _
  refine W_seq (W_region (L_as (L_as (L_nil (thenQ_normal (W_seq (W_seq (W_region (L_mv (L_cmp .i32 r 0 (r < 0) rfl (cmp_lt r 0) (by kernel_rfl) (by kernel_rfl) ?_ ?_))))))))))
  · intro h1
    replace h1 : r < 0 := by omega
    refine L_mv (L_skip (by kernel_rfl) (L_skip (by kernel_rfl) (L_pickT (by kernel_rfl) (L_nil (thenQ_normal (W_true (by kernel_rfl) (W_seq (W_region (L_as (L_as (L_nil (thenQ_normal (W_ret (thenQ_ret ?_))))))))))))))
    refine end_ret [.tmp 2, .tmp 3] [(S ([] : List UInt8)), (.int .i64 40)] rfl rfl ⟨by kernel_rfl, by kernel_rfl, trivial⟩ ?_
    have hE : (([] : List UInt8) = (showF r).1) ∧ ((40 : Int) = (showF r).2) := ⟨(by (rw [showF_bad (by omega)]; done)), (by (rw [showF_bad (by omega)]; done))⟩
    exact ⟨tup2 (congrArg S hE.1) (congrArg (Value.int .i64) hE.2), hb⟩
  · intro h2
    replace h2 : 0 ≤ r := by omega
    refine L_mv (L_want (by kernel_rfl) (L_mv (L_want (by kernel_rfl) (L_cmp .i32 r 1114111 (1114111 < r) rfl (cmp_gt r 1114111) (by kernel_rfl) (by kernel_rfl) ?_ ?_))))
    · intro h3
      replace h3 : 1114111 < r := by omega
      refine L_pickF (by kernel_rfl) (L_nil (thenQ_normal (W_true (by kernel_rfl) (W_seq (W_region (L_as (L_as (L_nil (thenQ_normal (W_ret (thenQ_ret ?_)))))))))))
      refine end_ret [.tmp 2, .tmp 3] [(S ([] : List UInt8)), (.int .i64 40)] rfl rfl ⟨by kernel_rfl, by kernel_rfl, trivial⟩ ?_
      have hE : (([] : List UInt8) = (showF r).1) ∧ ((40 : Int) = (showF r).2) := ⟨(by (rw [showF_bad (by omega)]; done)), (by (rw [showF_bad (by omega)]; done))⟩
      exact ⟨tup2 (congrArg S hE.1) (congrArg (Value.int .i64) hE.2), hb⟩
    · intro h4
      replace h4 : r ≤ 1114111 := by omega
      refine L_pickF (by kernel_rfl) (L_nil (thenQ_normal (W_false (by kernel_rfl) (W_skip (thenQ_normal (W_seq (W_region (L_as (L_nil (thenQ_normal (W_seq (W_region (L_mv (L_conv (k := .i32) r r (by kernel_rfl) Tryd.underlying3 (by kernel_rfl) (wrap_i64 _ (by omega) (by omega)) (L_as (L_nil (thenQ_normal (W_seq (W_block ?_)))))))))))))))))))
      refine W_loop (fun m s0 w0 => ∃ (acc : List UInt8) (z : Int), (m = 10 - acc.length) ∧ (s0.ds = []) ∧ (s0.f 2 = (S ([] : List UInt8))) ∧ (s0.f 3 = (.int .i64 0)) ∧ (s0.f 4 = (S acc)) ∧ (s0.f 5 = (.int .i64 z)) ∧ (Below w.heap.size w w0) ∧ (w.heap.size ≤ w0.heap.size) ∧ (acc.length ≤ cntD r.toNat) ∧ (z = ((r.toNat / 16 ^ acc.length : Nat) : Int)) ∧ (acc = digsD r.toNat acc.length)) _ ⟨([] : List UInt8), r, rfl, by kernel_rfl, by kernel_rfl, by kernel_rfl, by kernel_rfl, by kernel_rfl, hb, hs, Nat.zero_le _, by simp; omega, rfl⟩ ?_
      rintro m5 s6 w7 ⟨acc, z, hm, hds, f_2, f_3, f_4, f_5, hb, hs, i1, i2, i3⟩
      refine W_set 2 _ f_2 (W_set 3 _ f_3 (W_set 4 _ f_4 (W_set 5 _ f_5 ?_)))
      clear f_2 f_3 f_4 f_5
      have hcd := cntD_le r.toNat
      have hfz := show_facts i1 i2 (by omega)
      refine W_seq (W_seq (W_region (L_mv (L_cmp .i64 z 0 (0 < z) rfl (cmp_gt z 0) (by kernel_rfl) (by kernel_rfl) ?_ ?_))))
      · intro h8
        replace h8 : 0 < z := by omega
        refine L_mv (L_skip (by kernel_rfl) (L_skip (by kernel_rfl) (L_skip (by kernel_rfl) (L_pickT (by kernel_rfl) (L_nil (thenQ_normal (W_true (by kernel_rfl) (W_skip (thenQ_normal (W_block (W_seq (W_region (L_mv (L_rem (k := .i64) z 16 (by omega) (by omega) (by kernel_rfl) (by kernel_rfl) ?_))))))))))))))
        have hz := get_some ([48, 49, 50, 51, 52, 53, 54, 55, 56, 57, 65, 66, 67, 68, 69, 70] : List UInt8) ((z % 16).toNat) (by (rw [show (([48, 49, 50, 51, 52, 53, 54, 55, 56, 57, 65, 66, 67, 68, 69, 70] : List UInt8)).length = 16 from rfl]; omega)); obtain ⟨c9, hc10⟩ := hz
        have := c9.toNat_lt
        refine L_sindexZ (k := .i64) ([48, 49, 50, 51, 52, 53, 54, 55, 56, 57, 65, 66, 67, 68, 69, 70] : List UInt8) (z % 16) ((z % 16).toNat) c9 (by omega) Tryd.underlying9 hc10 (by kernel_rfl) (by kernel_rfl) (L_new (fun b => .slice (some ⟨b, 0, none⟩) 1 1) (.cells [(.int .u8 ((c9.toNat : Nat) : Int))].toArray 5 (0, 0)) (by kernel_rfl) (by kernel_rfl) ?_)
        intro b11 w12 hN13
        have g_b11 : w.heap.size ≤ b11 := by rw [hN13.num]; exact hs
        replace hb := hb.trans (hN13.below.mono hs)
        replace hs := Nat.le_trans hs (hN13.below.size)
        have r_b11 : Row w12 w.heap.size 5 1 encU8 (.slice (some ⟨b11, 0, none⟩) 1 1) ([((c9.toNat : Nat) : Int)] : List (Int)) := Row.made ([((c9.toNat : Nat) : Int)] : List (Int)) hN13 g_b11 rfl rfl (by first | decide | (simp; done))
        refine L_bytesStr (.slice (some ⟨b11, 0, none⟩) 1 1) ([((c9.toNat : Nat) : Int)] : List (Int)) Tryd.underlying71 Tryd.underlying5 Tryd.underlying9 (by kernel_rfl) r_b11.rd (L_mv (L_sadd (bytesI ([((c9.toNat : Nat) : Int)] : List (Int))) acc (by (simp only [bytesI, List.length_map, List.length_append, List.length_cons, List.length_nil]; omega)) (by kernel_rfl) (by kernel_rfl) (L_as (L_nil (thenQ_normal (W_region (L_mv (L_quo (k := .i64) z 16 (z / 16) (by omega) (by omega) (by kernel_rfl) (by kernel_rfl) (wrap_i64 _ (by omega) (by omega)) (L_as (L_nil (blkQ_normal ?_)))))))))))
        refine thenQ_normal ⟨_, ?_, ((bytesI ([((c9.toNat : Nat) : Int)] : List (Int))) ++ acc), (z / 16), rfl, hds, by kernel_rfl, by kernel_rfl, by kernel_rfl, by kernel_rfl, hb, hs, ?_, ?_, ?_⟩
        · have hst := show_step i2 i3 (by assumption); omega
        · have hst := show_step i2 i3 (by assumption); omega
        · exact (show_step i2 i3 (by assumption)).2.1
        · exact (show_step i2 i3 (by assumption)).2.2
      · intro h14
        replace h14 : z ≤ 0 := by omega
        refine L_mv (L_want (by kernel_rfl) (L_mv (L_want (by kernel_rfl) (L_slen 9 acc rfl Tryd.underlying9 (by kernel_rfl) (L_want (by kernel_rfl) (L_cmp .i64 (((acc).length : Nat) : Int) ((4 : Nat) : Int) ((acc).length < 4) rfl (cmpN_lt ((acc).length) 4) (by kernel_rfl) (by kernel_rfl) ?_ ?_))))))
        · intro h15
          replace h15 : (acc).length < 4 := by omega
          refine L_pickF (by kernel_rfl) (L_nil (thenQ_normal (W_true (by kernel_rfl) (W_skip (thenQ_normal (W_block (W_seq (W_region (L_mv (L_rem (k := .i64) z 16 (by omega) (by omega) (by kernel_rfl) (by kernel_rfl) ?_))))))))))
          have hz := get_some ([48, 49, 50, 51, 52, 53, 54, 55, 56, 57, 65, 66, 67, 68, 69, 70] : List UInt8) ((z % 16).toNat) (by (rw [show (([48, 49, 50, 51, 52, 53, 54, 55, 56, 57, 65, 66, 67, 68, 69, 70] : List UInt8)).length = 16 from rfl]; omega)); obtain ⟨c16, hc17⟩ := hz
          have := c16.toNat_lt
          refine L_sindexZ (k := .i64) ([48, 49, 50, 51, 52, 53, 54, 55, 56, 57, 65, 66, 67, 68, 69, 70] : List UInt8) (z % 16) ((z % 16).toNat) c16 (by omega) Tryd.underlying9 hc17 (by kernel_rfl) (by kernel_rfl) (L_new (fun b => .slice (some ⟨b, 0, none⟩) 1 1) (.cells [(.int .u8 ((c16.toNat : Nat) : Int))].toArray 5 (0, 0)) (by kernel_rfl) (by kernel_rfl) ?_)
          intro b18 w19 hN20
          have g_b18 : w.heap.size ≤ b18 := by rw [hN20.num]; exact hs
          replace hb := hb.trans (hN20.below.mono hs)
          replace hs := Nat.le_trans hs (hN20.below.size)
          have r_b18 : Row w19 w.heap.size 5 1 encU8 (.slice (some ⟨b18, 0, none⟩) 1 1) ([((c16.toNat : Nat) : Int)] : List (Int)) := Row.made ([((c16.toNat : Nat) : Int)] : List (Int)) hN20 g_b18 rfl rfl (by first | decide | (simp; done))
          refine L_bytesStr (.slice (some ⟨b18, 0, none⟩) 1 1) ([((c16.toNat : Nat) : Int)] : List (Int)) Tryd.underlying71 Tryd.underlying5 Tryd.underlying9 (by kernel_rfl) r_b18.rd (L_mv (L_sadd (bytesI ([((c16.toNat : Nat) : Int)] : List (Int))) acc (by (simp only [bytesI, List.length_map, List.length_append, List.length_cons, List.length_nil]; omega)) (by kernel_rfl) (by kernel_rfl) (L_as (L_nil (thenQ_normal (W_region (L_mv (L_quo (k := .i64) z 16 (z / 16) (by omega) (by omega) (by kernel_rfl) (by kernel_rfl) (wrap_i64 _ (by omega) (by omega)) (L_as (L_nil (blkQ_normal ?_)))))))))))
          refine thenQ_normal ⟨_, ?_, ((bytesI ([((c16.toNat : Nat) : Int)] : List (Int))) ++ acc), (z / 16), rfl, hds, by kernel_rfl, by kernel_rfl, by kernel_rfl, by kernel_rfl, hb, hs, ?_, ?_, ?_⟩
          · have hst := show_step i2 i3 (by assumption); omega
          · have hst := show_step i2 i3 (by assumption); omega
          · exact (show_step i2 i3 (by assumption)).2.1
          · exact (show_step i2 i3 (by assumption)).2.2
        · intro h21
          replace h21 : 4 ≤ (acc).length := by omega
          refine L_pickF (by kernel_rfl) (L_nil (thenQ_normal (W_false (by kernel_rfl) (W_exit (thenQ_exit (thenQ_exit (blkQ_exit (thenQ_normal (W_seq (W_region (L_mv (L_as (L_as (L_nil (thenQ_normal (W_ret ?_))))))))))))))))
          refine end_ret [.tmp 2, .tmp 3] [(S acc), (.int .i64 0)] rfl hds ⟨by kernel_rfl, by kernel_rfl, trivial⟩ ?_
          have hE : (acc = (showF r).1) ∧ ((0 : Int) = (showF r).2) := ⟨(by (rw [showF_ok (by omega) (by omega)]; first | done | exact show_end i1 i2 i3 (by omega) (by omega))), (by (rw [showF_ok (by omega) (by omega)]; first | done | exact show_end i1 i2 i3 (by omega) (by omega)))⟩
          exact ⟨tup2 (congrArg S hE.1) (congrArg (Value.int .i64) hE.2), hb⟩

theorem c_slices_Reverse {B_ E_ : Nat} (v_s : Value) (s : List (Int)) (w : World) (p_s : Row w B_ E_ 1 encU8 v_s s)  :
    Calls Tryd.prog 57 #[v_s] w (Ret fun v w' => v = (.tuple #[]) ∧ Row w' B_ E_ 1 encU8 v_s (List.reverse s) ∧ w.grownBy w' (Value.ownBlock v_s)) :=
  reverse_contract (fun x : Int => Value.int .u8 x) (fun _ => rfl) (AnyE.slices_Reverse_empty laysRev) (AnyE.slices_Reverse laysRev _ (fun _ => rfl)) v_s s w p_s

set_option maxHeartbeats 4000000 in
set_option maxRecDepth 100000 in
theorem c_points_Show (r : Int) (w : World) :
    Calls Tryd.prog 43 #[(.int .i32 r)] w (Ret fun v w' => v = (.tuple #[(S ((showF r).1)), (.int .i64 ((showF r).2))]) ∧ Below w.heap.size w w') := by
  refine enter (args := [(.int .i32 r)]) Tryd.func43 rfl (by kernel_rfl : _ = 32) (by kernel_rfl) ?_
  have hb := Below.refl w.heap.size w
  have hs : w.heap.size ≤ w.heap.size := Nat.le_refl _
  refine W_seq (W_region (L_as (L_as (L_nil (thenQ_normal (W_seq (W_seq (W_region (L_mv (L_cmp .i32 r 0 (r < 0) rfl (cmp_lt r 0) (by kernel_rfl) (by kernel_rfl) ?_ ?_))))))))))
  · intro h1
    replace h1 : r < 0 := by omega
    refine L_mv (L_skip (by kernel_rfl) (L_skip (by kernel_rfl) (L_pickT (by kernel_rfl) (L_nil (thenQ_normal (W_true (by kernel_rfl) (W_seq (W_region (L_as (L_as (L_nil (thenQ_normal (W_ret (thenQ_ret ?_))))))))))))))
    refine end_ret [.tmp 2, .tmp 3] [(S ([] : List UInt8)), (.int .i64 40)] rfl rfl ⟨by kernel_rfl, by kernel_rfl, trivial⟩ ?_
    have hE : (([] : List UInt8) = (showF r).1) ∧ ((40 : Int) = (showF r).2) := ⟨(by (rw [showF_bad (by omega)]; done)), (by (rw [showF_bad (by omega)]; done))⟩
    exact ⟨tup2 (congrArg S hE.1) (congrArg (Value.int .i64) hE.2), hb⟩
  · intro h2
    replace h2 : 0 ≤ r := by omega
    refine L_mv (L_want (by kernel_rfl) (L_mv (L_want (by kernel_rfl) (L_cmp .i32 r 1114111 (1114111 < r) rfl (cmp_gt r 1114111) (by kernel_rfl) (by kernel_rfl) ?_ ?_))))
    · intro h3
      replace h3 : 1114111 < r := by omega
      refine L_pickF (by kernel_rfl) (L_nil (thenQ_normal (W_true (by kernel_rfl) (W_seq (W_region (L_as (L_as (L_nil (thenQ_normal (W_ret (thenQ_ret ?_)))))))))))
      refine end_ret [.tmp 2, .tmp 3] [(S ([] : List UInt8)), (.int .i64 40)] rfl rfl ⟨by kernel_rfl, by kernel_rfl, trivial⟩ ?_
      have hE : (([] : List UInt8) = (showF r).1) ∧ ((40 : Int) = (showF r).2) := ⟨(by (rw [showF_bad (by omega)]; done)), (by (rw [showF_bad (by omega)]; done))⟩
      exact ⟨tup2 (congrArg S hE.1) (congrArg (Value.int .i64) hE.2), hb⟩
    · intro h4
      replace h4 : r ≤ 1114111 := by omega
      refine L_pickF (by kernel_rfl) (L_nil (thenQ_normal (W_false (by kernel_rfl) (W_skip (thenQ_normal (W_seq (W_region (L_as (L_nil (thenQ_normal (W_seq (W_seq (W_region (L_mv (L_as (L_nil (thenQ_normal (W_block ?_))))))))))))))))))
      refine W_loop (fun m s0 w0 => ∃ (acc : List Int) (z : Int) (v_4 : Value), (m = 10 - acc.length) ∧ (s0.ds = []) ∧ (s0.f 2 = (S ([] : List UInt8))) ∧ (s0.f 3 = (.int .i64 0)) ∧ (s0.f 4 = v_4) ∧ (s0.f 5 = (.int .i32 z)) ∧ (Row w0 w.heap.size 5 1 encU8 v_4 acc) ∧ (Below w.heap.size w w0) ∧ (w.heap.size ≤ w0.heap.size) ∧ (acc.length ≤ cntD r.toNat) ∧ (z = ((r.toNat / 16 ^ acc.length : Nat) : Int)) ∧ (acc = lowB (digsD r.toNat acc.length))) _ ⟨[], r, (.slice none 0 0), rfl, by kernel_rfl, by kernel_rfl, by kernel_rfl, by kernel_rfl, by kernel_rfl, Row.nil _ _ _ _ _, hb, hs, Nat.zero_le _, by simp; omega, rfl⟩ ?_
      rintro m5 s6 w7 ⟨acc, z, v_4, hm, hds, f_2, f_3, f_4, f_5, r_4, hb, hs, i1, i2, i3⟩
      refine W_set 2 _ f_2 (W_set 3 _ f_3 (W_set 4 _ f_4 (W_set 5 _ f_5 ?_)))
      clear f_2 f_3 f_4 f_5
      have hcd := cntD_le r.toNat
      have hfz := show_factsR i1 i2 (by omega)
      refine W_seq (W_seq (W_region (L_mv (L_cmp .i32 z 0 (0 < z) rfl (cmp_gt z 0) (by kernel_rfl) (by kernel_rfl) ?_ ?_))))
      · intro h8
        replace h8 : 0 < z := by omega
        refine L_mv (L_skip (by kernel_rfl) (L_skip (by kernel_rfl) (L_skip (by kernel_rfl) (L_pickT (by kernel_rfl) (L_nil (thenQ_normal (W_true (by kernel_rfl) (W_skip (thenQ_normal (W_seq (W_block (W_region (L_mv (L_mv (L_and15 z z.toNat (by omega) (by kernel_rfl) (by kernel_rfl) ?_)))))))))))))))
        have hz := get_some ([48, 49, 50, 51, 52, 53, 54, 55, 56, 57, 65, 66, 67, 68, 69, 70] : List UInt8) (z.toNat % 16) (by (rw [show (([48, 49, 50, 51, 52, 53, 54, 55, 56, 57, 65, 66, 67, 68, 69, 70] : List UInt8)).length = 16 from rfl]; omega)); obtain ⟨c9, hc10⟩ := hz
        have := c9.toNat_lt
        refine L_sindex (k := .i32) ([48, 49, 50, 51, 52, 53, 54, 55, 56, 57, 65, 66, 67, 68, 69, 70] : List UInt8) (z.toNat % 16) c9 Tryd.underlying9 hc10 (by kernel_rfl) (by kernel_rfl) (L_app el71 w.heap.size v_4 acc ((c9.toNat : Nat) : Int) hs r_4 (by omega) (by kernel_rfl) rfl rfl (by kernel_rfl) rfl (by kernel_rfl) (by kernel_rfl) ?_)
        intro v11 w12 hr13 hg14 how15
        replace hb := hb.grown hg14 hs (fun k hk => (World.ownsRow.lt r_4 k hk).1)
        replace hs := Nat.le_trans hs (hg14.size)
        replace r_4 := hr13
        refine L_as (L_nil (blkQ_normal (thenQ_normal (W_region (L_mv (L_shr (k := .i32) (yk := .u64) z 4 16 rfl (by kernel_rfl) (by kernel_rfl) (by kernel_rfl) (L_as (L_nil ?_))))))))
        refine thenQ_normal ⟨_, ?_, (acc ++ [((c9.toNat : Nat) : Int)]), (z / 16), v11, rfl, hds, by kernel_rfl, by kernel_rfl, by kernel_rfl, by kernel_rfl, r_4, hb, hs, ?_, ?_, ?_⟩
        · simp; omega
        · simp; omega
        · exact (show_stepR i2 i3 (by assumption)).1
        · exact (show_stepR i2 i3 (by assumption)).2
      · intro h16
        replace h16 : z ≤ 0 := by omega
        refine L_mv (L_want (by kernel_rfl) (L_mv (L_want (by kernel_rfl) (L_len 71 5 (acc).length v_4 rfl Tryd.underlying71 (r_4.rd).len (by kernel_rfl) (L_want (by kernel_rfl) (L_cmp .i64 (((acc).length : Nat) : Int) ((4 : Nat) : Int) ((acc).length < 4) rfl (cmpN_lt ((acc).length) 4) (by kernel_rfl) (by kernel_rfl) ?_ ?_))))))
        · intro h17
          replace h17 : (acc).length < 4 := by omega
          refine L_pickF (by kernel_rfl) (L_nil (thenQ_normal (W_true (by kernel_rfl) (W_skip (thenQ_normal (W_seq (W_block (W_region (L_mv (L_mv (L_and15 z z.toNat (by omega) (by kernel_rfl) (by kernel_rfl) ?_)))))))))))
          have hz := get_some ([48, 49, 50, 51, 52, 53, 54, 55, 56, 57, 65, 66, 67, 68, 69, 70] : List UInt8) (z.toNat % 16) (by (rw [show (([48, 49, 50, 51, 52, 53, 54, 55, 56, 57, 65, 66, 67, 68, 69, 70] : List UInt8)).length = 16 from rfl]; omega)); obtain ⟨c18, hc19⟩ := hz
          have := c18.toNat_lt
          refine L_sindex (k := .i32) ([48, 49, 50, 51, 52, 53, 54, 55, 56, 57, 65, 66, 67, 68, 69, 70] : List UInt8) (z.toNat % 16) c18 Tryd.underlying9 hc19 (by kernel_rfl) (by kernel_rfl) (L_app el71 w.heap.size v_4 acc ((c18.toNat : Nat) : Int) hs r_4 (by omega) (by kernel_rfl) rfl rfl (by kernel_rfl) rfl (by kernel_rfl) (by kernel_rfl) ?_)
          intro v20 w21 hr22 hg23 how24
          replace hb := hb.grown hg23 hs (fun k hk => (World.ownsRow.lt r_4 k hk).1)
          replace hs := Nat.le_trans hs (hg23.size)
          replace r_4 := hr22
          refine L_as (L_nil (blkQ_normal (thenQ_normal (W_region (L_mv (L_shr (k := .i32) (yk := .u64) z 4 16 rfl (by kernel_rfl) (by kernel_rfl) (by kernel_rfl) (L_as (L_nil ?_))))))))
          refine thenQ_normal ⟨_, ?_, (acc ++ [((c18.toNat : Nat) : Int)]), (z / 16), v20, rfl, hds, by kernel_rfl, by kernel_rfl, by kernel_rfl, by kernel_rfl, r_4, hb, hs, ?_, ?_, ?_⟩
          · simp; omega
          · simp; omega
          · exact (show_stepR i2 i3 (by assumption)).1
          · exact (show_stepR i2 i3 (by assumption)).2
        · intro h25
          replace h25 : 4 ≤ (acc).length := by omega
          refine L_pickF (by kernel_rfl) (L_nil (thenQ_normal (W_false (by kernel_rfl) (W_exit (thenQ_exit (thenQ_exit (blkQ_exit (thenQ_normal (W_seq (W_region (L_mv (L_call 57 [v_4] (by kernel_rfl) (by kernel_rfl) (c_slices_Reverse v_4 acc _ r_4 ) ?_))))))))))))
          rintro _ w26 ⟨rfl, hr27, hg28⟩
          replace hb := hb.grown hg28 hs (fun k hk => (World.ownsRow.lt r_4 k hk).1)
          replace hs := Nat.le_trans hs (hg28.size)
          replace r_4 := hr27
          refine L_nil (thenQ_normal (W_seq (W_region (L_mv (L_bytesStr v_4 (List.reverse acc) Tryd.underlying71 Tryd.underlying5 Tryd.underlying9 (by kernel_rfl) r_4.rd (L_as (L_as (L_nil (thenQ_normal (W_ret ?_))))))))))
          refine end_ret [.tmp 2, .tmp 3] [(S (bytesI (List.reverse acc))), (.int .i64 0)] rfl hds ⟨by kernel_rfl, by kernel_rfl, trivial⟩ ?_
          have hE : ((bytesI (List.reverse acc)) = (showF r).1) ∧ ((0 : Int) = (showF r).2) := ⟨(by (rw [showF_ok (by omega) (by omega)]; first | done | exact show_endR i1 i2 i3 (by omega) (by omega))), (by (rw [showF_ok (by omega) (by omega)]; first | done | exact show_endR i1 i2 i3 (by omega) (by omega)))⟩
          exact ⟨tup2 (congrArg S hE.1) (congrArg (Value.int .i64) hE.2), hb⟩


set_option maxHeartbeats 4000000 in
set_option maxRecDepth 100000 in
theorem bl_copy0 (b : Nat) (v : Value) (w : World) (ho : w.heap[b]? = some (.cells [(.pointer none), v].toArray 73 (0, 0))) :
    Calls Tryd.prog 55 #[(.pointer (some ⟨b, 0, none⟩))] w (Ret fun v1 w1 => v1 = (.tuple #[]) ∧ Wrote w w1 b (.cells [(.pointer (some ⟨b, 0, none⟩)), v].toArray 73 (0, 0))) := by
  refine enter (args := [(.pointer (some ⟨b, 0, none⟩))]) Tryd.func55 rfl (by kernel_rfl : _ = 20) (by kernel_rfl) ?_
  have hb := Below.refl w.heap.size w
  have hs : w.heap.size ≤ w.heap.size := Nat.le_refl _
  refine W_seq (W_region (L_mv (L_run (.pointer (some ⟨b, 0, none⟩)) (by kernel_rfl) (by kernel_rfl) (L_run (.pointer (some ⟨b, 0, none⟩)) (by kernel_rfl) (by kernel_rfl) (L_load b 0 (.pointer none) (by kernel_rfl) (by kernel_rfl) (cell_obj ho rfl) (L_run (.bool true) (by kernel_rfl) (by kernel_rfl) (L_nil (thenQ_normal (W_true (by kernel_rfl) (W_region (L_mv (L_mv (L_toUns (k := 2) b Tryd.underlying70 Tryd.underlying94 (by kernel_rfl) (by kernel_rfl) ho (by kernel_rfl) (by kernel_rfl) (L_run (.pointer (some ⟨b, 0, none⟩)) (by kernel_rfl) (by kernel_rfl) (L_fromUns (k := 2) b Tryd.underlying94 Tryd.underlying70 (by kernel_rfl) ho (by kernel_rfl) (by kernel_rfl) (L_run (.pointer (some ⟨b, 0, none⟩)) (by kernel_rfl) (by kernel_rfl) (L_run (.pointer (some ⟨b, 0, none⟩)) (by kernel_rfl) (by kernel_rfl) (L_store b 0 (.pointer (some ⟨b, 0, none⟩)) [(.pointer none), v] [(.pointer (some ⟨b, 0, none⟩)), v] 73 (by kernel_rfl) (by kernel_rfl) rfl (by kernel_rfl) ho (by simp) rfl ?_))))))))))))))))))
  intro w1 hW2
  replace hs := Nat.le_trans hs (Nat.le_of_eq hW2.size.symm)
  replace ho := hW2.here
  refine L_nil ?_
  refine end_normal [] [] rfl rfl trivial ?_
  exact ⟨rfl, hW2⟩

set_option maxHeartbeats 4000000 in
set_option maxRecDepth 100000 in
theorem bl_copy1 (b : Nat) (v : Value) (w : World) (ho : w.heap[b]? = some (.cells [(.pointer (some ⟨b, 0, none⟩)), v].toArray 73 (0, 0))) :
    Calls Tryd.prog 55 #[(.pointer (some ⟨b, 0, none⟩))] w (Ret fun v1 w1 => v1 = (.tuple #[]) ∧ w1 = w) := by
  refine enter (args := [(.pointer (some ⟨b, 0, none⟩))]) Tryd.func55 rfl (by kernel_rfl : _ = 20) (by kernel_rfl) ?_
  have hb := Below.refl w.heap.size w
  have hs : w.heap.size ≤ w.heap.size := Nat.le_refl _
  refine W_seq (W_region (L_mv (L_run (.pointer (some ⟨b, 0, none⟩)) (by kernel_rfl) (by kernel_rfl) (L_run (.pointer (some ⟨b, 0, none⟩)) (by kernel_rfl) (by kernel_rfl) (L_load b 0 (.pointer (some ⟨b, 0, none⟩)) (by kernel_rfl) (by kernel_rfl) (cell_obj ho rfl) (L_run (.bool false) (by kernel_rfl) (by kernel_rfl) (L_nil (thenQ_normal (W_false (by kernel_rfl) (W_seq (W_region (L_mv (L_run (.pointer (some ⟨b, 0, none⟩)) (by kernel_rfl) (by kernel_rfl) (L_run (.pointer (some ⟨b, 0, none⟩)) (by kernel_rfl) (by kernel_rfl) (L_load b 0 (.pointer (some ⟨b, 0, none⟩)) (by kernel_rfl) (by kernel_rfl) (cell_obj ho rfl) (L_mv (L_pneF (k := 2) b Tryd.underlying70 (by kernel_rfl) (by kernel_rfl) (by kernel_rfl) (by kernel_rfl) (L_nil (thenQ_normal (W_false (by kernel_rfl) (W_skip ?_)))))))))))))))))))))
  refine end_normal [] [] rfl rfl trivial ?_
  exact ⟨rfl, rfl⟩

theorem bl_copy (b : Nat) (p v : Value) (w : World) (hp : p = .pointer none ∨ p = (.pointer (some ⟨b, 0, none⟩))) (ho : w.heap[b]? = some (.cells [p, v].toArray 73 (0, 0))) :
    Calls Tryd.prog 55 #[(.pointer (some ⟨b, 0, none⟩))] w (Ret fun v1 w1 => v1 = (.tuple #[]) ∧ ((w1 = w ∧ p = (.pointer (some ⟨b, 0, none⟩))) ∨ Wrote w w1 b (.cells [(.pointer (some ⟨b, 0, none⟩)), v].toArray 73 (0, 0)))) := by
  rcases hp with rfl | rfl
  · refine (bl_copy0 b v w ho).mono ?_
    rintro e w1 ⟨u, rfl, rfl, h⟩
    exact ⟨_, rfl, rfl, .inr h⟩
  · refine (bl_copy1 b v w ho).mono ?_
    rintro e w1 ⟨u, rfl, rfl, h⟩
    exact ⟨_, rfl, rfl, .inl ⟨h, rfl⟩⟩


set_option maxHeartbeats 4000000 in
set_option maxRecDepth 100000 in
theorem bl_WriteString (B b : Nat) (l : List UInt8) (x : List UInt8) (w : World) (h : Bld 73 5 B b l w) (hl : l.length ≤ 1073741824) (hx : x.length ≤ 1073741824) (hB : B ≤ w.heap.size) :
    Calls Tryd.prog 35 #[(.pointer (some ⟨b, 0, none⟩)), (S x)] w (Ret fun v1 w3 => v1 = (.tuple #[.int .i64 ((x.length : Nat) : Int), .nilIface]) ∧ Bld 73 5 B b (l ++ x) w3 ∧ Below B w w3 ∧ Lib.OthersKept 5 (some b) w w3) := by
  refine enter (args := [(.pointer (some ⟨b, 0, none⟩)), (S x)]) Tryd.func35 rfl (by kernel_rfl : _ = 19) (by kernel_rfl) ?_
  have hb := Below.refl w.heap.size w
  have hs : w.heap.size ≤ w.heap.size := Nat.le_refl _
  have hz := bld_open h
  obtain ⟨hBb, p, v, hp, ho, hown, hne⟩ := hz
  refine W_seq (W_region (L_as (L_as (L_nil (thenQ_normal (W_seq (W_region (L_mv (L_call 55 [(.pointer (some ⟨b, 0, none⟩))] (by kernel_rfl) (by kernel_rfl) (bl_copy b p v _ hp ho) ?_)))))))))
  rintro _ w1 ⟨rfl, hcc⟩
  have hz := copy_out hcc hBb ho hown hne
  obtain ⟨ho1, hown1, hb1, hO1, hs1⟩ := hz
  have hBs : B ≤ w1.heap.size := Nat.le_trans hB hs1
  replace hs := Nat.le_trans hs hs1
  refine L_nil (thenQ_normal (W_seq (W_region (L_mv (L_mv (L_run (.pointer (some ⟨b, 0, none⟩)) (by kernel_rfl) (by kernel_rfl) (L_run (.pointer (some ⟨b, 1, none⟩)) (by kernel_rfl) (by kernel_rfl) (L_load b 1 v (by kernel_rfl) (by kernel_rfl) (cell_obj ho1 rfl) (L_mv (L_appStrF x Tryd.underlying71 Tryd.underlying9 (by kernel_rfl) hown1 hl hx hBs (by kernel_rfl) (by kernel_rfl) ?_))))))))))
  intro v2 w2 hown2 hg2
  have ho2 := obj_grown ho1 hg2 (frow_ne hown1 ho1 (by kernel_rfl))
  have ho2k := ho2
  replace hs := Nat.le_trans hs hg2.size
  refine L_run (.pointer (some ⟨b, 0, none⟩)) (by kernel_rfl) (by kernel_rfl) (L_run (.pointer (some ⟨b, 1, none⟩)) (by kernel_rfl) (by kernel_rfl) (L_store b 1 v2 [(.pointer (some ⟨b, 0, none⟩)), v] [(.pointer (some ⟨b, 0, none⟩)), v2] 73 (by kernel_rfl) (by kernel_rfl) (frow_one hown2) (by kernel_rfl) ho2 (by simp) rfl ?_))
  intro w1 hW2
  replace hs := Nat.le_trans hs (Nat.le_of_eq hW2.size.symm)
  replace ho2 := hW2.here
  refine L_nil (thenQ_normal (W_seq (W_region (L_mv (L_slen 9 x rfl Tryd.underlying9 (by kernel_rfl) (L_as (L_as (L_nil (thenQ_normal (W_ret ?_))))))))))
  refine end_ret [.tmp 4, .tmp 5] [(.int .i64 (((x).length : Nat) : Int)), .nilIface] rfl rfl ⟨by kernel_rfl, by kernel_rfl, trivial⟩ ?_
  have hz := bld_shut hBb hb1 hO1 hBs hown1 hg2 hown2 ho2k hW2 (by kernel_rfl)
  exact ⟨rfl, hz⟩


set_option maxHeartbeats 4000000 in
set_option maxRecDepth 100000 in
theorem bl_WriteByte (B b : Nat) (l : List UInt8) (c : UInt8) (w : World) (h : Bld 73 5 B b l w) (hl : l.length ≤ 1073741824) (hB : B ≤ w.heap.size) :
    Calls Tryd.prog 34 #[(.pointer (some ⟨b, 0, none⟩)), (.int .u8 ((c.toNat : Nat) : Int))] w (Ret fun v1 w3 => v1 = .nilIface ∧ Bld 73 5 B b (l ++ [c]) w3 ∧ Below B w w3 ∧ Lib.OthersKept 5 (some b) w w3) := by
  refine enter (args := [(.pointer (some ⟨b, 0, none⟩)), (.int .u8 ((c.toNat : Nat) : Int))]) Tryd.func34 rfl (by kernel_rfl : _ = 17) (by kernel_rfl) ?_
  have hb := Below.refl w.heap.size w
  have hs : w.heap.size ≤ w.heap.size := Nat.le_refl _
  have hz := bld_open h
  obtain ⟨hBb, p, v, hp, ho, hown, hne⟩ := hz
  refine W_seq (W_region (L_as (L_nil (thenQ_normal (W_seq (W_region (L_mv (L_call 55 [(.pointer (some ⟨b, 0, none⟩))] (by kernel_rfl) (by kernel_rfl) (bl_copy b p v _ hp ho) ?_))))))))
  rintro _ w1 ⟨rfl, hcc⟩
  have hz := copy_out hcc hBb ho hown hne
  obtain ⟨ho1, hown1, hb1, hO1, hs1⟩ := hz
  have hBs : B ≤ w1.heap.size := Nat.le_trans hB hs1
  replace hs := Nat.le_trans hs hs1
  refine L_nil (thenQ_normal (W_seq (W_region (L_mv (L_mv (L_run (.pointer (some ⟨b, 0, none⟩)) (by kernel_rfl) (by kernel_rfl) (L_run (.pointer (some ⟨b, 1, none⟩)) (by kernel_rfl) (by kernel_rfl) (L_load b 1 v (by kernel_rfl) (by kernel_rfl) (cell_obj ho1 rfl) (L_mv (L_new (fun b => .slice (some ⟨b, 0, none⟩) 1 1) (.cells [(.int .u8 ((c.toNat : Nat) : Int))].toArray 5 (0, 0)) (by kernel_rfl) (by kernel_rfl) ?_))))))))))
  intro g w1a hN1
  have hNb := hN1.below
  replace ho1 := obj_below ho1 hNb; replace hO1 := hO1.trans (kept_below hNb); replace hb1 := hb1.trans (hNb.mono hBs); replace hown1 := frow_below hown1 hNb; replace hBs := Nat.le_trans hBs hNb.size; replace hs := Nat.le_trans hs hNb.size
  refine L_appByteF c g Tryd.underlying71 (by kernel_rfl) hown1 hl hN1.here hBs (by kernel_rfl) (by kernel_rfl) ?_
  intro v2 w2 hown2 hg2
  have ho2 := obj_grown ho1 hg2 (frow_ne hown1 ho1 (by kernel_rfl))
  have ho2k := ho2
  replace hs := Nat.le_trans hs hg2.size
  refine L_run (.pointer (some ⟨b, 0, none⟩)) (by kernel_rfl) (by kernel_rfl) (L_run (.pointer (some ⟨b, 1, none⟩)) (by kernel_rfl) (by kernel_rfl) (L_store b 1 v2 [(.pointer (some ⟨b, 0, none⟩)), v] [(.pointer (some ⟨b, 0, none⟩)), v2] 73 (by kernel_rfl) (by kernel_rfl) (frow_one hown2) (by kernel_rfl) ho2 (by simp) rfl ?_))
  intro w1 hW2
  replace hs := Nat.le_trans hs (Nat.le_of_eq hW2.size.symm)
  replace ho2 := hW2.here
  refine L_nil (thenQ_normal (W_seq (W_region (L_as (L_nil (thenQ_normal (W_ret ?_)))))))
  refine end_ret [.tmp 4] [.nilIface] rfl rfl ⟨by kernel_rfl, trivial⟩ ?_
  have hz := bld_shut hBb hb1 hO1 hBs hown1 hg2 hown2 ho2k hW2 (by kernel_rfl)
  exact ⟨rfl, hz⟩



end Go.Proofs.YtjdcmeoiommglaaDoor
