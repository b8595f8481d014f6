/- Walks, written by my program walk.py out of the specification ptexts.py: each theorem says what one function returns and that it leaves memory as it was. -/
import Derived.Test.YtmjkegpbbhafjaaPTexts
import Derived.Test.YtmjkegpbbhafjaaWphex
import Derived.Test.YtmjkegpbbhafjaaWpmap
import Derived.Test.YtmjkegpbbhafjaaWprep
import Derived.Test.YtmjkegpbbhafjaaWplay
import Derived.Test.YtmjkegpbbhafjaaWpall
import Derived.Test.YtmjkegpbbhafjaaWplives
import Derived.Test.YtmjkegpbbhafjaaFKt
import Derived.Test.YtmjkegpbbhafjaaProg
import Derived.Tactics2
namespace Go.Proofs.Ytmjkegpbbhafjaa
open Go Go.RowKit Go.FK
set_option linter.unusedVariables false

theorem eqagg29 (a0 : Int) (a1 : Int) (c0 : Int) (c1 : Int) (w : World) : (Op.equalIn 10000 29 (.agg #[.int .i32 a0, .int .i32 a1]) (.agg #[.int .i32 c0, .int .i32 c1])).run Try.prog w = .ok (a0 == c0 && a1 == c1) w := by
  have hS : Try.prog.underlying 29 = some (.struct (Try.prog.fieldsOf 29)) := by kernel_rfl
  have hp : Try.prog.stoodInHeld 29 = false := by kernel_rfl
  rw [show (10000 : Nat) = 9999 + 1 from rfl, run_equalIn_agg w 9999 29 _ _ hS hp]
  simp only [Program.fieldsOf, Try.underlying29]
  have isAgg21 := Try.isAgg21
  have sizeOf21 := Try.sizeOf21
  have underlying21 := Try.underlying21
  try simp only [S]
  go_simp
  by_cases h0 : a0 = c0 <;> by_cases h1 : a1 = c1 <;> simp [h0, h1]


set_option maxHeartbeats 4000000 in
set_option maxRecDepth 100000 in
theorem c_furrowlaw04_PointsNames (w : World) {m_ml : Int} (hml : w.cell? ⟨0, 0, none⟩ = some (.int .i64 m_ml)) :
    Calls Try.prog 4 #[] w (Ret fun v w' => v = (.bool true) ∧ Below w.heap.size w w') := by
  refine enter (args := []) Try.func4 rfl (by kernel_rfl : _ = 4) (by kernel_rfl) ?_
  have hb := Below.refl w.heap.size w
  have hs : w.heap.size ≤ w.heap.size := Nat.le_refl _
  refine W_seq (W_region (L_as (L_nil (thenQ_normal (W_seq (W_region (L_mv (L_want (by kernel_rfl) (L_call 11 [] (by kernel_rfl) (by kernel_rfl) (c_lives  _ (gcell_below hml hb)) ?_)))))))))
  rintro _ w1 ⟨rfl, hB2⟩
  replace hb := hb.trans (hB2.mono hs)
  replace hs := Nat.le_trans hs (hB2.size)
  refine L_pickT (by kernel_rfl) (L_as (L_nil (thenQ_normal (W_ret ?_))))
  refine end_ret [.tmp 0] [(.bool true)] rfl rfl ⟨by kernel_rfl, trivial⟩ ?_
  have e0 : true = true := by rfl
  exact ⟨congrArg Value.bool e0, hb⟩

set_option maxHeartbeats 4000000 in
set_option maxRecDepth 100000 in
theorem c_furrowlaw04_PointsTexts (s : List UInt8) (r : Int) (lo : Int) (hi : Int) (w : World) {m_ml : Int} (hml : w.cell? ⟨0, 0, none⟩ = some (.int .i64 m_ml)) (hs : s.length ≤ 1073741824) :
    Calls Try.prog 7 #[(S s), (.int .i32 r), (Value.agg #[(.int .i32 lo), (.int .i32 hi)])] w (Ret fun v w' => v = (.bool true) ∧ Below w.heap.size w w') := by
  refine enter (args := [(S s), (.int .i32 r), (Value.agg #[(.int .i32 lo), (.int .i32 hi)])]) Try.func7 rfl (by kernel_rfl : _ = 109) (by kernel_rfl) ?_
  have hb := Below.refl w.heap.size w
  have hs : w.heap.size ≤ w.heap.size := Nat.le_refl _
  refine W_seq (W_region (L_new (fun b => .pointer (some ⟨b, 0, none⟩)) (.cells [(.int .i32 lo), (.int .i32 hi)].toArray 29 (0, 0)) (by kernel_rfl) (by kernel_rfl) ?_))
  intro b1 w2 hN3
  have g_x5 : w.heap.size ≤ b1 := by rw [hN3.num]; exact hs
  replace hb := hb.trans (hN3.below.mono hs)
  replace hs := Nat.le_trans hs (hN3.below.size)
  have o_x5 := hN3.here
  refine L_as (L_nil (thenQ_normal (W_seq (W_region (L_mv (L_call 31 [(S s)] (by kernel_rfl) (by kernel_rfl) (c_points_Hex s _ (by omega)) ?_))))))
  rintro _ w4 ⟨rfl, hB5⟩
  replace hb := hb.trans (hB5.mono hs)
  replace hs := Nat.le_trans hs (hB5.size)
  replace o_x5 := obj_below o_x5 hB5
  refine L_mv (L_run (.int .i32 ((hexF s).1)) (by kernel_rfl) (by kernel_rfl) (L_run (.int .i64 ((hexF s).2)) (by kernel_rfl) (by kernel_rfl) (L_as (L_as (L_nil (thenQ_normal (W_seq (W_region (L_mv (L_call 32 [(S s)] (by kernel_rfl) (by kernel_rfl) (c_furrowref04_Read s _ (by omega)) ?_))))))))))
  rintro _ w7 ⟨rfl, hB8⟩
  replace hb := hb.trans (hB8.mono hs)
  replace hs := Nat.le_trans hs (hB8.size)
  replace o_x5 := obj_below o_x5 hB8
  refine L_mv (L_run (.int .i32 ((hexF s).1)) (by kernel_rfl) (by kernel_rfl) (L_run (.int .i64 ((hexF s).2)) (by kernel_rfl) (by kernel_rfl) (L_as (L_as (L_nil (thenQ_normal (W_seq (W_region (L_mv (L_call 33 [(.int .i32 r)] (by kernel_rfl) (by kernel_rfl) (c_points_Show r _ ) ?_))))))))))
  rintro _ w10 ⟨rfl, hB11⟩
  replace hb := hb.trans (hB11.mono hs)
  replace hs := Nat.le_trans hs (hB11.size)
  replace o_x5 := obj_below o_x5 hB11
  refine L_mv (L_run (S ((showF r).1)) (by kernel_rfl) (by kernel_rfl) (L_run (.int .i64 ((showF r).2)) (by kernel_rfl) (by kernel_rfl) (L_as (L_as (L_nil (thenQ_normal (W_seq (W_region (L_mv (L_call 34 [(.int .i32 r)] (by kernel_rfl) (by kernel_rfl) (c_furrowref04_Show r _ ) ?_))))))))))
  rintro _ w13 ⟨rfl, hB14⟩
  replace hb := hb.trans (hB14.mono hs)
  replace hs := Nat.le_trans hs (hB14.size)
  replace o_x5 := obj_below o_x5 hB14
  refine L_mv (L_run (S ((showF r).1)) (by kernel_rfl) (by kernel_rfl) (L_run (.int .i64 ((showF r).2)) (by kernel_rfl) (by kernel_rfl) (L_as (L_as (L_nil (thenQ_normal (W_seq (W_seq (W_quiet (by kernel_rfl) (by kernel_rfl) (Lq_mv (Lq_mv (Lq_cmp .i32 ((hexF s).1) ((hexF s).1) ((hexF s).1 ≠ (hexF s).1) rfl (cmp_ne ((hexF s).1) ((hexF s).1)) (by kernel_rfl) (by kernel_rfl) ?_ ?_))))))))))))
  · intro h16
    replace h16 : (hexF s).1 ≠ (hexF s).1 := by omega
    exact (h16 rfl).elim
  · intro h17
    replace h17 : (hexF s).1 = (hexF s).1 := by omega
    refine Lq_mv (Lq_want (by kernel_rfl) (Lq_mv (Lq_want (by kernel_rfl) (Lq_mv (Lq_want (by kernel_rfl) (Lq_cmp .i64 ((hexF s).2) ((hexF s).2) ((hexF s).2 ≠ (hexF s).2) rfl (cmp_ne ((hexF s).2) ((hexF s).2)) (by kernel_rfl) (by kernel_rfl) ?_ ?_))))))
    · intro h18
      replace h18 : (hexF s).2 ≠ (hexF s).2 := by omega
      exact (h18 rfl).elim
    · intro h19
      replace h19 : (hexF s).2 = (hexF s).2 := by omega
      refine Lq_pickF (by kernel_rfl) (Lq_mv (Lq_want (by kernel_rfl) (Lq_mv (Lq_want (by kernel_rfl) (Lq_mv (Lq_want (by kernel_rfl) (Lq_sne ((showF r).1) ((showF r).1) rfl (by kernel_rfl) (by kernel_rfl) ?_ ?_)))))))
      · intro h20
        exact (h20 rfl).elim
      · intro h21
        refine Lq_pickF (by kernel_rfl) (Lq_mv (Lq_want (by kernel_rfl) (Lq_mv (Lq_want (by kernel_rfl) (Lq_mv (Lq_want (by kernel_rfl) (Lq_cmp .i64 ((showF r).2) ((showF r).2) ((showF r).2 ≠ (showF r).2) rfl (cmp_ne ((showF r).2) ((showF r).2)) (by kernel_rfl) (by kernel_rfl) ?_ ?_)))))))
        · intro h22
          replace h22 : (showF r).2 ≠ (showF r).2 := by omega
          exact (h22 rfl).elim
        · intro h23
          replace h23 : (showF r).2 = (showF r).2 := by omega
          refine Lq_pickF (by kernel_rfl) (Lq_mv (Lq_want (by kernel_rfl) (Lq_loadA b1 0 [(.int .i32 lo), (.int .i32 hi)] (by kernel_rfl) (fun _ => by kernel_rfl) (fun _ => by kernel_rfl) (cells_at o_x5 0 (by kernel_rfl)) (Lq_want (by kernel_rfl) (Lq_call 35 [(Value.agg #[(.int .i32 lo), (.int .i32 hi)])] (.bool (mayF lo hi)) (fun _ _ => by kernel_rfl) (fun wq hbq => c_points_May lo hi wq ) (Lq_put_split (mayF lo hi) ?_ ?_))))))
          · intro h24
            refine Lq_want (by kernel_rfl) (Lq_loadA b1 0 [(.int .i32 lo), (.int .i32 hi)] (by kernel_rfl) (fun _ => by kernel_rfl) (fun _ => by kernel_rfl) (cells_at o_x5 0 (by kernel_rfl)) (Lq_want (by kernel_rfl) (Lq_call 36 [(Value.agg #[(.int .i32 lo), (.int .i32 hi)])] (.bool (mayF lo hi)) (fun _ _ => by kernel_rfl) (fun wq hbq => c_furrowref04_May lo hi wq ) (Lq_put_split (mayF lo hi) ?_ ?_))))
            · intro h25
              refine Lq_want (by kernel_rfl) (Lq_run (.bool false) (fun _ => by kernel_rfl) (Lq_pickF (by kernel_rfl) (Lq_nil ?_)))
              intro w26 hB27
              replace hb := hb.trans (hB27.mono hs)
              replace hs := Nat.le_trans hs (hB27.size)
              replace o_x5 := obj_below o_x5 hB27
              refine thenQ_normal (W_false (by kernel_rfl) (W_skip (thenQ_normal (W_seq (W_region (L_mv (L_call 37 [(S s)] (by kernel_rfl) (by kernel_rfl) (c_points_Span s _ (gcell_below hml hb) (by omega)) ?_)))))))
              rintro _ w28 ⟨rfl, hB29⟩
              replace hb := hb.trans (hB29.mono hs)
              replace hs := Nat.le_trans hs (hB29.size)
              replace o_x5 := obj_below o_x5 hB29
              refine L_mv (L_run (Value.agg #[(.int .i32 ((spanF s).1)), (.int .i32 ((spanF s).2.1))]) (by kernel_rfl) (by kernel_rfl) (L_run (.int .i64 ((spanF s).2.2)) (by kernel_rfl) (by kernel_rfl) (L_new (fun b => .pointer (some ⟨b, 0, none⟩)) (.cells [(.int .i32 0), (.int .i32 0)].toArray 29 (0, 0)) (by kernel_rfl) (by kernel_rfl) ?_)))
              intro b31 w32 hN33
              have ne_x5_x15 : b1 ≠ b31 := by have := obj_lt o_x5; have := hN33.num; omega
              have ne_x15_x5 := ne_x5_x15.symm
              have g_x15 : w.heap.size ≤ b31 := by rw [hN33.num]; exact hs
              replace hb := hb.trans (hN33.below.mono hs)
              replace hs := Nat.le_trans hs (hN33.below.size)
              replace o_x5 := obj_below o_x5 hN33.below
              have o_x15 := hN33.here
              refine L_storeA b31 0 [(.int .i32 ((spanF s).1)), (.int .i32 ((spanF s).2.1))] [(.int .i32 0), (.int .i32 0)] [(.int .i32 ((spanF s).1)), (.int .i32 ((spanF s).2.1))] 29 (by kernel_rfl) (by kernel_rfl) rfl (by kernel_rfl) o_x15 (by kernel_rfl) rfl ?_
              intro w34 hW35
              replace hb := hb.trans (hW35.below g_x15)
              replace hs := Nat.le_trans hs (Nat.le_of_eq hW35.size.symm)
              have n_o_x5 := obj_wrote o_x5 hW35 ne_x5_x15
              replace o_x5 := n_o_x5; clear n_o_x5
              replace o_x15 := hW35.here
              refine L_as (L_nil (thenQ_normal (W_seq (W_region (L_mv (L_call 38 [(S s)] (by kernel_rfl) (by kernel_rfl) (c_furrowref04_Span s _ (by omega)) ?_))))))
              rintro _ w36 ⟨rfl, hB37⟩
              replace hb := hb.trans (hB37.mono hs)
              replace hs := Nat.le_trans hs (hB37.size)
              replace o_x5 := obj_below o_x5 hB37
              replace o_x15 := obj_below o_x15 hB37
              refine L_mv (L_run (Value.agg #[(.int .i32 ((spanF s).1)), (.int .i32 ((spanF s).2.1))]) (by kernel_rfl) (by kernel_rfl) (L_run (.int .i64 ((spanF s).2.2)) (by kernel_rfl) (by kernel_rfl) (L_new (fun b => .pointer (some ⟨b, 0, none⟩)) (.cells [(.int .i32 0), (.int .i32 0)].toArray 29 (0, 0)) (by kernel_rfl) (by kernel_rfl) ?_)))
              intro b39 w40 hN41
              have ne_x5_x17 : b1 ≠ b39 := by have := obj_lt o_x5; have := hN41.num; omega
              have ne_x17_x5 := ne_x5_x17.symm
              have ne_x15_x17 : b31 ≠ b39 := by have := obj_lt o_x15; have := hN41.num; omega
              have ne_x17_x15 := ne_x15_x17.symm
              have g_x17 : w.heap.size ≤ b39 := by rw [hN41.num]; exact hs
              replace hb := hb.trans (hN41.below.mono hs)
              replace hs := Nat.le_trans hs (hN41.below.size)
              replace o_x5 := obj_below o_x5 hN41.below
              replace o_x15 := obj_below o_x15 hN41.below
              have o_x17 := hN41.here
              refine L_storeA b39 0 [(.int .i32 ((spanF s).1)), (.int .i32 ((spanF s).2.1))] [(.int .i32 0), (.int .i32 0)] [(.int .i32 ((spanF s).1)), (.int .i32 ((spanF s).2.1))] 29 (by kernel_rfl) (by kernel_rfl) rfl (by kernel_rfl) o_x17 (by kernel_rfl) rfl ?_
              intro w42 hW43
              replace hb := hb.trans (hW43.below g_x17)
              replace hs := Nat.le_trans hs (Nat.le_of_eq hW43.size.symm)
              have n_o_x5 := obj_wrote o_x5 hW43 ne_x5_x17
              have n_o_x15 := obj_wrote o_x15 hW43 ne_x15_x17
              replace o_x5 := n_o_x5; clear n_o_x5
              replace o_x15 := n_o_x15; clear n_o_x15
              replace o_x17 := hW43.here
              refine L_as (L_nil (thenQ_normal (W_seq (W_region (L_loadA b1 0 [(.int .i32 lo), (.int .i32 hi)] (by kernel_rfl) (by kernel_rfl) (by kernel_rfl) (cells_at o_x5 0 (by kernel_rfl)) (L_call 39 [(Value.agg #[(.int .i32 lo), (.int .i32 hi)])] (by kernel_rfl) (by kernel_rfl) (c_points_ShowSpan lo hi _ ) ?_))))))
              rintro _ w44 ⟨rfl, hB45⟩
              replace hb := hb.trans (hB45.mono hs)
              replace hs := Nat.le_trans hs (hB45.size)
              replace o_x5 := obj_below o_x5 hB45
              replace o_x15 := obj_below o_x15 hB45
              replace o_x17 := obj_below o_x17 hB45
              refine L_mv (L_run (S ((showSpanF lo hi).1)) (by kernel_rfl) (by kernel_rfl) (L_run (.int .i64 ((showSpanF lo hi).2)) (by kernel_rfl) (by kernel_rfl) (L_as (L_as (L_nil (thenQ_normal (W_seq (W_region (L_loadA b1 0 [(.int .i32 lo), (.int .i32 hi)] (by kernel_rfl) (by kernel_rfl) (by kernel_rfl) (cells_at o_x5 0 (by kernel_rfl)) (L_call 40 [(Value.agg #[(.int .i32 lo), (.int .i32 hi)])] (by kernel_rfl) (by kernel_rfl) (c_furrowref04_ShowSpan lo hi _ ) ?_))))))))))
              rintro _ w47 ⟨rfl, hB48⟩
              replace hb := hb.trans (hB48.mono hs)
              replace hs := Nat.le_trans hs (hB48.size)
              replace o_x5 := obj_below o_x5 hB48
              replace o_x15 := obj_below o_x15 hB48
              replace o_x17 := obj_below o_x17 hB48
              refine L_mv (L_run (S ((showSpanF lo hi).1)) (by kernel_rfl) (by kernel_rfl) (L_run (.int .i64 ((showSpanF lo hi).2)) (by kernel_rfl) (by kernel_rfl) (L_as (L_as (L_nil (thenQ_normal (W_seq (W_region (L_loadA b31 0 [(.int .i32 ((spanF s).1)), (.int .i32 ((spanF s).2.1))] (by kernel_rfl) (by kernel_rfl) (by kernel_rfl) (cells_at o_x15 0 (by kernel_rfl)) (L_loadA b39 0 [(.int .i32 ((spanF s).1)), (.int .i32 ((spanF s).2.1))] (by kernel_rfl) (by kernel_rfl) (by kernel_rfl) (cells_at o_x17 0 (by kernel_rfl)) (L_aggeq [(.int .i32 ((spanF s).1)), (.int .i32 ((spanF s).2.1))] [(.int .i32 ((spanF s).1)), (.int .i32 ((spanF s).2.1))] (((spanF s).1) == ((spanF s).1) && ((spanF s).2.1) == ((spanF s).2.1)) (by kernel_rfl) (by kernel_rfl) (by kernel_rfl) (eqagg29 ((spanF s).1) ((spanF s).2.1) ((spanF s).1) ((spanF s).2.1)) ?_ ?_)))))))))))
              · intro h50
                refine L_mv (L_want (by kernel_rfl) (L_mv (L_want (by kernel_rfl) (L_mv (L_want (by kernel_rfl) (L_cmp .i64 ((spanF s).2.2) ((spanF s).2.2) ((spanF s).2.2 = (spanF s).2.2) rfl (cmp_eq ((spanF s).2.2) ((spanF s).2.2)) (by kernel_rfl) (by kernel_rfl) ?_ ?_))))))
                · intro h51
                  replace h51 : (spanF s).2.2 = (spanF s).2.2 := by omega
                  refine L_pickT (by kernel_rfl) (L_mv (L_want (by kernel_rfl) (L_mv (L_want (by kernel_rfl) (L_mv (L_want (by kernel_rfl) (L_seq ((showSpanF lo hi).1) ((showSpanF lo hi).1) rfl (by kernel_rfl) (by kernel_rfl) ?_ ?_)))))))
                  · intro h52
                    refine L_pickT (by kernel_rfl) (L_mv (L_want (by kernel_rfl) (L_mv (L_want (by kernel_rfl) (L_mv (L_want (by kernel_rfl) (L_cmp .i64 ((showSpanF lo hi).2) ((showSpanF lo hi).2) ((showSpanF lo hi).2 = (showSpanF lo hi).2) rfl (cmp_eq ((showSpanF lo hi).2) ((showSpanF lo hi).2)) (by kernel_rfl) (by kernel_rfl) ?_ ?_)))))))
                    · intro h53
                      replace h53 : (showSpanF lo hi).2 = (showSpanF lo hi).2 := by omega
                      refine L_pickT (by kernel_rfl) (L_mv (L_want (by kernel_rfl) (L_call 11 [] (by kernel_rfl) (by kernel_rfl) (c_lives  _ (gcell_below hml hb)) ?_)))
                      rintro _ w54 ⟨rfl, hB55⟩
                      replace hb := hb.trans (hB55.mono hs)
                      replace hs := Nat.le_trans hs (hB55.size)
                      replace o_x5 := obj_below o_x5 hB55
                      replace o_x15 := obj_below o_x15 hB55
                      replace o_x17 := obj_below o_x17 hB55
                      refine L_pickT (by kernel_rfl) (L_as (L_nil (thenQ_normal (W_ret ?_))))
                      refine end_ret [.tmp 6] [(.bool true)] rfl rfl ⟨by kernel_rfl, trivial⟩ ?_
                      have e0 : true = true := by first | rfl | (exfalso; simp_all; done)
                      exact ⟨congrArg Value.bool e0, hb⟩
                    · intro h57
                      replace h57 : (showSpanF lo hi).2 ≠ (showSpanF lo hi).2 := by omega
                      exact (h57 rfl).elim
                  · intro h58
                    exact (h58 rfl).elim
                · intro h59
                  replace h59 : (spanF s).2.2 ≠ (spanF s).2.2 := by omega
                  exact (h59 rfl).elim
              · intro h60
                simp at h60
            · intro h61
              refine Lq_want (by kernel_rfl) (Lq_run (.bool true) (fun _ => by kernel_rfl) (Lq_pickF (by kernel_rfl) (Lq_nil ?_)))
              intro w62 hB63
              replace hb := hb.trans (hB63.mono hs)
              replace hs := Nat.le_trans hs (hB63.size)
              replace o_x5 := obj_below o_x5 hB63
              refine thenQ_normal (W_true (by kernel_rfl) (W_seq (W_region (L_as (L_nil (thenQ_normal (W_ret (thenQ_ret ?_))))))))
              refine end_ret [.tmp 6] [(.bool false)] rfl rfl ⟨by kernel_rfl, trivial⟩ ?_
              have e0 : false = true := by first | rfl | (exfalso; simp_all; done)
              exact ⟨congrArg Value.bool e0, hb⟩
          · intro h64
            refine Lq_want (by kernel_rfl) (Lq_loadA b1 0 [(.int .i32 lo), (.int .i32 hi)] (by kernel_rfl) (fun _ => by kernel_rfl) (fun _ => by kernel_rfl) (cells_at o_x5 0 (by kernel_rfl)) (Lq_want (by kernel_rfl) (Lq_call 36 [(Value.agg #[(.int .i32 lo), (.int .i32 hi)])] (.bool (mayF lo hi)) (fun _ _ => by kernel_rfl) (fun wq hbq => c_furrowref04_May lo hi wq ) (Lq_put_split (mayF lo hi) ?_ ?_))))
            · intro h65
              refine Lq_want (by kernel_rfl) (Lq_run (.bool true) (fun _ => by kernel_rfl) (Lq_pickF (by kernel_rfl) (Lq_nil ?_)))
              intro w66 hB67
              replace hb := hb.trans (hB67.mono hs)
              replace hs := Nat.le_trans hs (hB67.size)
              replace o_x5 := obj_below o_x5 hB67
              refine thenQ_normal (W_true (by kernel_rfl) (W_seq (W_region (L_as (L_nil (thenQ_normal (W_ret (thenQ_ret ?_))))))))
              refine end_ret [.tmp 6] [(.bool false)] rfl rfl ⟨by kernel_rfl, trivial⟩ ?_
              have e0 : false = true := by first | rfl | (exfalso; simp_all; done)
              exact ⟨congrArg Value.bool e0, hb⟩
            · intro h68
              refine Lq_want (by kernel_rfl) (Lq_run (.bool false) (fun _ => by kernel_rfl) (Lq_pickF (by kernel_rfl) (Lq_nil ?_)))
              intro w69 hB70
              replace hb := hb.trans (hB70.mono hs)
              replace hs := Nat.le_trans hs (hB70.size)
              replace o_x5 := obj_below o_x5 hB70
              refine thenQ_normal (W_false (by kernel_rfl) (W_skip (thenQ_normal (W_seq (W_region (L_mv (L_call 37 [(S s)] (by kernel_rfl) (by kernel_rfl) (c_points_Span s _ (gcell_below hml hb) (by omega)) ?_)))))))
              rintro _ w71 ⟨rfl, hB72⟩
              replace hb := hb.trans (hB72.mono hs)
              replace hs := Nat.le_trans hs (hB72.size)
              replace o_x5 := obj_below o_x5 hB72
              refine L_mv (L_run (Value.agg #[(.int .i32 ((spanF s).1)), (.int .i32 ((spanF s).2.1))]) (by kernel_rfl) (by kernel_rfl) (L_run (.int .i64 ((spanF s).2.2)) (by kernel_rfl) (by kernel_rfl) (L_new (fun b => .pointer (some ⟨b, 0, none⟩)) (.cells [(.int .i32 0), (.int .i32 0)].toArray 29 (0, 0)) (by kernel_rfl) (by kernel_rfl) ?_)))
              intro b74 w75 hN76
              have ne_x5_x15 : b1 ≠ b74 := by have := obj_lt o_x5; have := hN76.num; omega
              have ne_x15_x5 := ne_x5_x15.symm
              have g_x15 : w.heap.size ≤ b74 := by rw [hN76.num]; exact hs
              replace hb := hb.trans (hN76.below.mono hs)
              replace hs := Nat.le_trans hs (hN76.below.size)
              replace o_x5 := obj_below o_x5 hN76.below
              have o_x15 := hN76.here
              refine L_storeA b74 0 [(.int .i32 ((spanF s).1)), (.int .i32 ((spanF s).2.1))] [(.int .i32 0), (.int .i32 0)] [(.int .i32 ((spanF s).1)), (.int .i32 ((spanF s).2.1))] 29 (by kernel_rfl) (by kernel_rfl) rfl (by kernel_rfl) o_x15 (by kernel_rfl) rfl ?_
              intro w77 hW78
              replace hb := hb.trans (hW78.below g_x15)
              replace hs := Nat.le_trans hs (Nat.le_of_eq hW78.size.symm)
              have n_o_x5 := obj_wrote o_x5 hW78 ne_x5_x15
              replace o_x5 := n_o_x5; clear n_o_x5
              replace o_x15 := hW78.here
              refine L_as (L_nil (thenQ_normal (W_seq (W_region (L_mv (L_call 38 [(S s)] (by kernel_rfl) (by kernel_rfl) (c_furrowref04_Span s _ (by omega)) ?_))))))
              rintro _ w79 ⟨rfl, hB80⟩
              replace hb := hb.trans (hB80.mono hs)
              replace hs := Nat.le_trans hs (hB80.size)
              replace o_x5 := obj_below o_x5 hB80
              replace o_x15 := obj_below o_x15 hB80
              refine L_mv (L_run (Value.agg #[(.int .i32 ((spanF s).1)), (.int .i32 ((spanF s).2.1))]) (by kernel_rfl) (by kernel_rfl) (L_run (.int .i64 ((spanF s).2.2)) (by kernel_rfl) (by kernel_rfl) (L_new (fun b => .pointer (some ⟨b, 0, none⟩)) (.cells [(.int .i32 0), (.int .i32 0)].toArray 29 (0, 0)) (by kernel_rfl) (by kernel_rfl) ?_)))
              intro b82 w83 hN84
              have ne_x5_x17 : b1 ≠ b82 := by have := obj_lt o_x5; have := hN84.num; omega
              have ne_x17_x5 := ne_x5_x17.symm
              have ne_x15_x17 : b74 ≠ b82 := by have := obj_lt o_x15; have := hN84.num; omega
              have ne_x17_x15 := ne_x15_x17.symm
              have g_x17 : w.heap.size ≤ b82 := by rw [hN84.num]; exact hs
              replace hb := hb.trans (hN84.below.mono hs)
              replace hs := Nat.le_trans hs (hN84.below.size)
              replace o_x5 := obj_below o_x5 hN84.below
              replace o_x15 := obj_below o_x15 hN84.below
              have o_x17 := hN84.here
              refine L_storeA b82 0 [(.int .i32 ((spanF s).1)), (.int .i32 ((spanF s).2.1))] [(.int .i32 0), (.int .i32 0)] [(.int .i32 ((spanF s).1)), (.int .i32 ((spanF s).2.1))] 29 (by kernel_rfl) (by kernel_rfl) rfl (by kernel_rfl) o_x17 (by kernel_rfl) rfl ?_
              intro w85 hW86
              replace hb := hb.trans (hW86.below g_x17)
              replace hs := Nat.le_trans hs (Nat.le_of_eq hW86.size.symm)
              have n_o_x5 := obj_wrote o_x5 hW86 ne_x5_x17
              have n_o_x15 := obj_wrote o_x15 hW86 ne_x15_x17
              replace o_x5 := n_o_x5; clear n_o_x5
              replace o_x15 := n_o_x15; clear n_o_x15
              replace o_x17 := hW86.here
              refine L_as (L_nil (thenQ_normal (W_seq (W_region (L_loadA b1 0 [(.int .i32 lo), (.int .i32 hi)] (by kernel_rfl) (by kernel_rfl) (by kernel_rfl) (cells_at o_x5 0 (by kernel_rfl)) (L_call 39 [(Value.agg #[(.int .i32 lo), (.int .i32 hi)])] (by kernel_rfl) (by kernel_rfl) (c_points_ShowSpan lo hi _ ) ?_))))))
              rintro _ w87 ⟨rfl, hB88⟩
              replace hb := hb.trans (hB88.mono hs)
              replace hs := Nat.le_trans hs (hB88.size)
              replace o_x5 := obj_below o_x5 hB88
              replace o_x15 := obj_below o_x15 hB88
              replace o_x17 := obj_below o_x17 hB88
              refine L_mv (L_run (S ((showSpanF lo hi).1)) (by kernel_rfl) (by kernel_rfl) (L_run (.int .i64 ((showSpanF lo hi).2)) (by kernel_rfl) (by kernel_rfl) (L_as (L_as (L_nil (thenQ_normal (W_seq (W_region (L_loadA b1 0 [(.int .i32 lo), (.int .i32 hi)] (by kernel_rfl) (by kernel_rfl) (by kernel_rfl) (cells_at o_x5 0 (by kernel_rfl)) (L_call 40 [(Value.agg #[(.int .i32 lo), (.int .i32 hi)])] (by kernel_rfl) (by kernel_rfl) (c_furrowref04_ShowSpan lo hi _ ) ?_))))))))))
              rintro _ w90 ⟨rfl, hB91⟩
              replace hb := hb.trans (hB91.mono hs)
              replace hs := Nat.le_trans hs (hB91.size)
              replace o_x5 := obj_below o_x5 hB91
              replace o_x15 := obj_below o_x15 hB91
              replace o_x17 := obj_below o_x17 hB91
              refine L_mv (L_run (S ((showSpanF lo hi).1)) (by kernel_rfl) (by kernel_rfl) (L_run (.int .i64 ((showSpanF lo hi).2)) (by kernel_rfl) (by kernel_rfl) (L_as (L_as (L_nil (thenQ_normal (W_seq (W_region (L_loadA b74 0 [(.int .i32 ((spanF s).1)), (.int .i32 ((spanF s).2.1))] (by kernel_rfl) (by kernel_rfl) (by kernel_rfl) (cells_at o_x15 0 (by kernel_rfl)) (L_loadA b82 0 [(.int .i32 ((spanF s).1)), (.int .i32 ((spanF s).2.1))] (by kernel_rfl) (by kernel_rfl) (by kernel_rfl) (cells_at o_x17 0 (by kernel_rfl)) (L_aggeq [(.int .i32 ((spanF s).1)), (.int .i32 ((spanF s).2.1))] [(.int .i32 ((spanF s).1)), (.int .i32 ((spanF s).2.1))] (((spanF s).1) == ((spanF s).1) && ((spanF s).2.1) == ((spanF s).2.1)) (by kernel_rfl) (by kernel_rfl) (by kernel_rfl) (eqagg29 ((spanF s).1) ((spanF s).2.1) ((spanF s).1) ((spanF s).2.1)) ?_ ?_)))))))))))
              · intro h93
                refine L_mv (L_want (by kernel_rfl) (L_mv (L_want (by kernel_rfl) (L_mv (L_want (by kernel_rfl) (L_cmp .i64 ((spanF s).2.2) ((spanF s).2.2) ((spanF s).2.2 = (spanF s).2.2) rfl (cmp_eq ((spanF s).2.2) ((spanF s).2.2)) (by kernel_rfl) (by kernel_rfl) ?_ ?_))))))
                · intro h94
                  replace h94 : (spanF s).2.2 = (spanF s).2.2 := by omega
                  refine L_pickT (by kernel_rfl) (L_mv (L_want (by kernel_rfl) (L_mv (L_want (by kernel_rfl) (L_mv (L_want (by kernel_rfl) (L_seq ((showSpanF lo hi).1) ((showSpanF lo hi).1) rfl (by kernel_rfl) (by kernel_rfl) ?_ ?_)))))))
                  · intro h95
                    refine L_pickT (by kernel_rfl) (L_mv (L_want (by kernel_rfl) (L_mv (L_want (by kernel_rfl) (L_mv (L_want (by kernel_rfl) (L_cmp .i64 ((showSpanF lo hi).2) ((showSpanF lo hi).2) ((showSpanF lo hi).2 = (showSpanF lo hi).2) rfl (cmp_eq ((showSpanF lo hi).2) ((showSpanF lo hi).2)) (by kernel_rfl) (by kernel_rfl) ?_ ?_)))))))
                    · intro h96
                      replace h96 : (showSpanF lo hi).2 = (showSpanF lo hi).2 := by omega
                      refine L_pickT (by kernel_rfl) (L_mv (L_want (by kernel_rfl) (L_call 11 [] (by kernel_rfl) (by kernel_rfl) (c_lives  _ (gcell_below hml hb)) ?_)))
                      rintro _ w97 ⟨rfl, hB98⟩
                      replace hb := hb.trans (hB98.mono hs)
                      replace hs := Nat.le_trans hs (hB98.size)
                      replace o_x5 := obj_below o_x5 hB98
                      replace o_x15 := obj_below o_x15 hB98
                      replace o_x17 := obj_below o_x17 hB98
                      refine L_pickT (by kernel_rfl) (L_as (L_nil (thenQ_normal (W_ret ?_))))
                      refine end_ret [.tmp 6] [(.bool true)] rfl rfl ⟨by kernel_rfl, trivial⟩ ?_
                      have e0 : true = true := by first | rfl | (exfalso; simp_all; done)
                      exact ⟨congrArg Value.bool e0, hb⟩
                    · intro h100
                      replace h100 : (showSpanF lo hi).2 ≠ (showSpanF lo hi).2 := by omega
                      exact (h100 rfl).elim
                  · intro h101
                    exact (h101 rfl).elim
                · intro h102
                  replace h102 : (spanF s).2.2 ≠ (spanF s).2.2 := by omega
                  exact (h102 rfl).elim
              · intro h103
                simp at h103

set_option maxHeartbeats 4000000 in
set_option maxRecDepth 100000 in
theorem c_furrowlaw04_PointsBack (r : Int) (lo : Int) (hi : Int) (s : List UInt8) (w : World) {m_ml : Int} (hml : w.cell? ⟨0, 0, none⟩ = some (.int .i64 m_ml)) (hs : s.length ≤ 1073741824) :
    Calls Try.prog 8 #[(.int .i32 r), (Value.agg #[(.int .i32 lo), (.int .i32 hi)]), (S s)] w (Ret fun v w' => v = (.bool true) ∧ Below w.heap.size w w') := by
  refine enter (args := [(.int .i32 r), (Value.agg #[(.int .i32 lo), (.int .i32 hi)]), (S s)]) Try.func8 rfl (by kernel_rfl : _ = 121) (by kernel_rfl) ?_
  have hb := Below.refl w.heap.size w
  have hs : w.heap.size ≤ w.heap.size := Nat.le_refl _
  have hl0 := showF_len r
  have hl1 := showSpan_len lo hi
  refine W_seq (W_region (L_new (fun b => .pointer (some ⟨b, 0, none⟩)) (.cells [(.int .i32 lo), (.int .i32 hi)].toArray 29 (0, 0)) (by kernel_rfl) (by kernel_rfl) ?_))
  intro b1 w2 hN3
  have g_x4 : w.heap.size ≤ b1 := by rw [hN3.num]; exact hs
  replace hb := hb.trans (hN3.below.mono hs)
  replace hs := Nat.le_trans hs (hN3.below.size)
  have o_x4 := hN3.here
  refine L_as (L_nil (thenQ_normal (W_seq (W_region (L_mv (L_call 33 [(.int .i32 r)] (by kernel_rfl) (by kernel_rfl) (c_points_Show r _ ) ?_))))))
  rintro _ w4 ⟨rfl, hB5⟩
  replace hb := hb.trans (hB5.mono hs)
  replace hs := Nat.le_trans hs (hB5.size)
  replace o_x4 := obj_below o_x4 hB5
  refine L_mv (L_run (S ((showF r).1)) (by kernel_rfl) (by kernel_rfl) (L_run (.int .i64 ((showF r).2)) (by kernel_rfl) (by kernel_rfl) (L_as (L_as (L_nil (thenQ_normal ?_))))))
  refine W_cut (fun s0 w0 => (s0.ds = []) ∧ (s0.f 2 = (S s)) ∧ (s0.f 4 = (.pointer (some ⟨b1, 0, none⟩))) ∧ (s0.f 7 = (S ((showF r).1))) ∧ (s0.f 8 = (.int .i64 ((showF r).2))) ∧ (w0.heap[b1]? = some (.cells [(.int .i32 lo), (.int .i32 hi)].toArray 29 (0, 0))) ∧ (Below w.heap.size w w0) ∧ (w.heap.size ≤ w0.heap.size)) ?_ ?_
  · refine W_seq (W_region (L_mv (L_cmp .i64 ((showF r).2) 0 ((showF r).2 = 0) rfl (cmp_eq ((showF r).2) 0) (by kernel_rfl) (by kernel_rfl) ?_ ?_)))
    · intro h7
      replace h7 : (showF r).2 = 0 := by omega
      refine L_nil (thenQ_normal (W_true (by kernel_rfl) (W_seq (W_region (L_mv (L_call 31 [(S ((showF r).1))] (by kernel_rfl) (by kernel_rfl) (c_points_Hex ((showF r).1) _ (by omega)) ?_))))))
      rintro _ w8 ⟨rfl, hB9⟩
      replace hb := hb.trans (hB9.mono hs)
      replace hs := Nat.le_trans hs (hB9.size)
      replace o_x4 := obj_below o_x4 hB9
      refine L_mv (L_run (.int .i32 ((hexF ((showF r).1)).1)) (by kernel_rfl) (by kernel_rfl) (L_run (.int .i64 ((hexF ((showF r).1)).2)) (by kernel_rfl) (by kernel_rfl) (L_as (L_as (L_nil (thenQ_normal (W_seq (W_region (L_mv (L_cmp .i64 ((hexF ((showF r).1)).2) 0 ((hexF ((showF r).1)).2 ≠ 0) rfl (cmp_ne ((hexF ((showF r).1)).2) 0) (by kernel_rfl) (by kernel_rfl) ?_ ?_))))))))))
      · intro h11
        replace h11 : (hexF ((showF r).1)).2 ≠ 0 := by omega
        exfalso; have hq := hex_show (show_ok (by assumption)).1 (show_ok (by assumption)).2; rw [hq] at h11; exact h11 rfl
      · intro h12
        replace h12 : (hexF ((showF r).1)).2 = 0 := by omega
        refine L_mv (L_want (by kernel_rfl) (L_mv (L_want (by kernel_rfl) (L_mv (L_want (by kernel_rfl) (L_cmp .i32 ((hexF ((showF r).1)).1) r ((hexF ((showF r).1)).1 ≠ r) rfl (cmp_ne ((hexF ((showF r).1)).1) r) (by kernel_rfl) (by kernel_rfl) ?_ ?_))))))
        · intro h13
          replace h13 : (hexF ((showF r).1)).1 ≠ r := by omega
          exfalso; have hq := hex_show (show_ok (by assumption)).1 (show_ok (by assumption)).2; rw [hq] at h13; exact h13 rfl
        · intro h14
          replace h14 : (hexF ((showF r).1)).1 = r := by omega
          refine L_pickF (by kernel_rfl) (L_mv (L_want (by kernel_rfl) (L_mv (L_want (by kernel_rfl) (L_slen 9 ((showF r).1) rfl Try.underlying9 (by kernel_rfl) (L_want (by kernel_rfl) (L_cmp .i64 ((((showF r).1).length : Nat) : Int) ((4 : Nat) : Int) (((showF r).1).length < 4) rfl (cmpN_lt (((showF r).1).length) 4) (by kernel_rfl) (by kernel_rfl) ?_ ?_)))))))
          · intro h15
            replace h15 : ((showF r).1).length < 4 := by omega
            exfalso; have hq := show_len4 (r := r) (by assumption); omega
          · intro h16
            replace h16 : 4 ≤ ((showF r).1).length := by omega
            refine L_pickF (by kernel_rfl) (L_nil (thenQ_normal (W_false (by kernel_rfl) (W_skip ?_))))
            refine thenQ_normal ⟨rfl, by kernel_rfl, by kernel_rfl, by kernel_rfl, by kernel_rfl, o_x4, hb, hs⟩
    · intro h17
      replace h17 : (showF r).2 ≠ 0 := by omega
      refine L_nil (thenQ_normal (W_false (by kernel_rfl) (W_skip ?_)))
      refine thenQ_normal ⟨rfl, by kernel_rfl, by kernel_rfl, by kernel_rfl, by kernel_rfl, o_x4, hb, hs⟩
  · rintro s18 w19 ⟨hds, f_2, f_4, f_7, f_8, o_x4, hb, hs⟩
    refine W_set 2 _ f_2 (W_set 4 _ f_4 (W_set 7 _ f_7 (W_set 8 _ f_8 ?_)))
    clear f_2 f_4 f_7 f_8
    refine W_seq (W_region (L_loadA b1 0 [(.int .i32 lo), (.int .i32 hi)] (by kernel_rfl) (by kernel_rfl) (by kernel_rfl) (cells_at o_x4 0 (by kernel_rfl)) (L_call 39 [(Value.agg #[(.int .i32 lo), (.int .i32 hi)])] (by kernel_rfl) (by kernel_rfl) (c_points_ShowSpan lo hi _ ) ?_)))
    rintro _ w20 ⟨rfl, hB21⟩
    replace hb := hb.trans (hB21.mono hs)
    replace hs := Nat.le_trans hs (hB21.size)
    replace o_x4 := obj_below o_x4 hB21
    refine L_mv (L_run (S ((showSpanF lo hi).1)) (by kernel_rfl) (by kernel_rfl) (L_run (.int .i64 ((showSpanF lo hi).2)) (by kernel_rfl) (by kernel_rfl) (L_as (L_as (L_nil (thenQ_normal ?_))))))
    refine W_cut (fun s0 w0 => (s0.ds = []) ∧ (s0.f 2 = (S s)) ∧ (s0.f 4 = (.pointer (some ⟨b1, 0, none⟩))) ∧ (s0.f 8 = (.int .i64 ((showSpanF lo hi).2))) ∧ (w0.heap[b1]? = some (.cells [(.int .i32 lo), (.int .i32 hi)].toArray 29 (0, 0))) ∧ (Below w.heap.size w w0) ∧ (w.heap.size ≤ w0.heap.size)) ?_ ?_
    · refine W_seq (W_region (L_mv (L_cmp .i64 ((showSpanF lo hi).2) 0 ((showSpanF lo hi).2 = 0) rfl (cmp_eq ((showSpanF lo hi).2) 0) (by kernel_rfl) (by kernel_rfl) ?_ ?_)))
      · intro h23
        replace h23 : (showSpanF lo hi).2 = 0 := by omega
        refine L_nil (thenQ_normal (W_true (by kernel_rfl) (W_seq (W_region (L_mv (L_call 37 [(S ((showSpanF lo hi).1))] (by kernel_rfl) (by kernel_rfl) (c_points_Span ((showSpanF lo hi).1) _ (gcell_below hml hb) (by omega)) ?_))))))
        rintro _ w24 ⟨rfl, hB25⟩
        replace hb := hb.trans (hB25.mono hs)
        replace hs := Nat.le_trans hs (hB25.size)
        replace o_x4 := obj_below o_x4 hB25
        refine L_mv (L_run (Value.agg #[(.int .i32 ((spanF ((showSpanF lo hi).1)).1)), (.int .i32 ((spanF ((showSpanF lo hi).1)).2.1))]) (by kernel_rfl) (by kernel_rfl) (L_run (.int .i64 ((spanF ((showSpanF lo hi).1)).2.2)) (by kernel_rfl) (by kernel_rfl) (L_new (fun b => .pointer (some ⟨b, 0, none⟩)) (.cells [(.int .i32 0), (.int .i32 0)].toArray 29 (0, 0)) (by kernel_rfl) (by kernel_rfl) ?_)))
        intro b27 w28 hN29
        have ne_x4_x11 : b1 ≠ b27 := by have := obj_lt o_x4; have := hN29.num; omega
        have ne_x11_x4 := ne_x4_x11.symm
        have g_x11 : w.heap.size ≤ b27 := by rw [hN29.num]; exact hs
        replace hb := hb.trans (hN29.below.mono hs)
        replace hs := Nat.le_trans hs (hN29.below.size)
        replace o_x4 := obj_below o_x4 hN29.below
        have o_x11 := hN29.here
        refine L_storeA b27 0 [(.int .i32 ((spanF ((showSpanF lo hi).1)).1)), (.int .i32 ((spanF ((showSpanF lo hi).1)).2.1))] [(.int .i32 0), (.int .i32 0)] [(.int .i32 ((spanF ((showSpanF lo hi).1)).1)), (.int .i32 ((spanF ((showSpanF lo hi).1)).2.1))] 29 (by kernel_rfl) (by kernel_rfl) rfl (by kernel_rfl) o_x11 (by kernel_rfl) rfl ?_
        intro w30 hW31
        replace hb := hb.trans (hW31.below g_x11)
        replace hs := Nat.le_trans hs (Nat.le_of_eq hW31.size.symm)
        have n_o_x4 := obj_wrote o_x4 hW31 ne_x4_x11
        replace o_x4 := n_o_x4; clear n_o_x4
        replace o_x11 := hW31.here
        refine L_as (L_nil (thenQ_normal (W_seq (W_region (L_mv (L_cmp .i64 ((spanF ((showSpanF lo hi).1)).2.2) 0 ((spanF ((showSpanF lo hi).1)).2.2 ≠ 0) rfl (cmp_ne ((spanF ((showSpanF lo hi).1)).2.2) 0) (by kernel_rfl) (by kernel_rfl) ?_ ?_))))))
        · intro h32
          replace h32 : (spanF ((showSpanF lo hi).1)).2.2 ≠ 0 := by omega
          exfalso; have hq := span_show (span_ok.1 (by assumption)); rw [hq] at h32; exact h32 rfl
        · intro h33
          replace h33 : (spanF ((showSpanF lo hi).1)).2.2 = 0 := by omega
          refine L_mv (L_want (by kernel_rfl) (L_loadA b27 0 [(.int .i32 ((spanF ((showSpanF lo hi).1)).1)), (.int .i32 ((spanF ((showSpanF lo hi).1)).2.1))] (by kernel_rfl) (by kernel_rfl) (by kernel_rfl) (cells_at o_x11 0 (by kernel_rfl)) (L_want (by kernel_rfl) (L_loadA b1 0 [(.int .i32 lo), (.int .i32 hi)] (by kernel_rfl) (by kernel_rfl) (by kernel_rfl) (cells_at o_x4 0 (by kernel_rfl)) (L_want (by kernel_rfl) (L_aggne [(.int .i32 ((spanF ((showSpanF lo hi).1)).1)), (.int .i32 ((spanF ((showSpanF lo hi).1)).2.1))] [(.int .i32 lo), (.int .i32 hi)] (((spanF ((showSpanF lo hi).1)).1) == lo && ((spanF ((showSpanF lo hi).1)).2.1) == hi) (by kernel_rfl) (by kernel_rfl) (by kernel_rfl) (eqagg29 ((spanF ((showSpanF lo hi).1)).1) ((spanF ((showSpanF lo hi).1)).2.1) lo hi) ?_ ?_))))))
          · intro h34
            exfalso; have hq := span_show (span_ok.1 (by assumption)); rw [hq] at h34; simp at h34
          · intro h35
            replace h35 : ((spanF ((showSpanF lo hi).1)).1) = lo ∧ ((spanF ((showSpanF lo hi).1)).2.1) = hi := by simpa using h35
            refine L_pickF (by kernel_rfl) (L_nil (thenQ_normal (W_false (by kernel_rfl) (W_skip ?_))))
            refine thenQ_normal ⟨hds, by kernel_rfl, by kernel_rfl, by kernel_rfl, o_x4, hb, hs⟩
      · intro h36
        replace h36 : (showSpanF lo hi).2 ≠ 0 := by omega
        refine L_nil (thenQ_normal (W_false (by kernel_rfl) (W_skip ?_)))
        refine thenQ_normal ⟨hds, by kernel_rfl, by kernel_rfl, by kernel_rfl, o_x4, hb, hs⟩
    · rintro s37 w38 ⟨hds, f_2, f_4, f_8, o_x4, hb, hs⟩
      refine W_set 2 _ f_2 (W_set 4 _ f_4 (W_set 8 _ f_8 ?_))
      clear f_2 f_4 f_8
      refine W_seq (W_region (L_mv (L_call 31 [(S s)] (by kernel_rfl) (by kernel_rfl) (c_points_Hex s _ (by omega)) ?_)))
      rintro _ w39 ⟨rfl, hB40⟩
      replace hb := hb.trans (hB40.mono hs)
      replace hs := Nat.le_trans hs (hB40.size)
      replace o_x4 := obj_below o_x4 hB40
      refine L_mv (L_run (.int .i32 ((hexF s).1)) (by kernel_rfl) (by kernel_rfl) (L_run (.int .i64 ((hexF s).2)) (by kernel_rfl) (by kernel_rfl) (L_as (L_as (L_nil (thenQ_normal ?_))))))
      refine W_cut (fun s0 w0 => (s0.ds = []) ∧ (s0.f 2 = (S s)) ∧ (s0.f 4 = (.pointer (some ⟨b1, 0, none⟩))) ∧ (s0.f 8 = (.int .i64 ((showSpanF lo hi).2))) ∧ (s0.f 14 = (.int .i64 ((hexF s).2))) ∧ (w0.heap[b1]? = some (.cells [(.int .i32 lo), (.int .i32 hi)].toArray 29 (0, 0))) ∧ (Below w.heap.size w w0) ∧ (w.heap.size ≤ w0.heap.size)) ?_ ?_
      · refine W_seq (W_region (L_mv (L_cmp .i64 ((hexF s).2) 0 ((hexF s).2 = 0) rfl (cmp_eq ((hexF s).2) 0) (by kernel_rfl) (by kernel_rfl) ?_ ?_)))
        · intro h42
          replace h42 : (hexF s).2 = 0 := by omega
          refine L_nil (thenQ_normal (W_true (by kernel_rfl) (W_seq (W_region (L_mv (L_call 33 [(.int .i32 ((hexF s).1))] (by kernel_rfl) (by kernel_rfl) (c_points_Show ((hexF s).1) _ ) ?_))))))
          rintro _ w43 ⟨rfl, hB44⟩
          replace hb := hb.trans (hB44.mono hs)
          replace hs := Nat.le_trans hs (hB44.size)
          replace o_x4 := obj_below o_x4 hB44
          refine L_mv (L_run (S ((showF ((hexF s).1)).1)) (by kernel_rfl) (by kernel_rfl) (L_run (.int .i64 ((showF ((hexF s).1)).2)) (by kernel_rfl) (by kernel_rfl) (L_as (L_as (L_nil (thenQ_normal (W_seq (W_region (L_mv (L_cmp .i64 ((showF ((hexF s).1)).2) 0 ((showF ((hexF s).1)).2 ≠ 0) rfl (cmp_ne ((showF ((hexF s).1)).2) 0) (by kernel_rfl) (by kernel_rfl) ?_ ?_))))))))))
          · intro h46
            replace h46 : (showF ((hexF s).1)).2 ≠ 0 := by omega
            exfalso; have hq := (show_hex (s := s) (by assumption)).1; rw [hq] at h46; exact h46 rfl
          · intro h47
            replace h47 : (showF ((hexF s).1)).2 = 0 := by omega
            refine L_mv (L_want (by kernel_rfl) (L_mv (L_want (by kernel_rfl) (L_mv (L_want (by kernel_rfl) (L_sne ((showF ((hexF s).1)).1) s rfl (by kernel_rfl) (by kernel_rfl) ?_ ?_))))))
            · intro h48
              exfalso; have hq := (show_hex (s := s) (by assumption)).1; rw [hq] at h48; exact h48 rfl
            · intro h49
              refine L_pickF (by kernel_rfl) (L_nil (thenQ_normal (W_false (by kernel_rfl) (W_skip ?_))))
              refine thenQ_normal ⟨hds, by kernel_rfl, by kernel_rfl, by kernel_rfl, by kernel_rfl, o_x4, hb, hs⟩
        · intro h50
          replace h50 : (hexF s).2 ≠ 0 := by omega
          refine L_nil (thenQ_normal (W_false (by kernel_rfl) (W_skip ?_)))
          refine thenQ_normal ⟨hds, by kernel_rfl, by kernel_rfl, by kernel_rfl, by kernel_rfl, o_x4, hb, hs⟩
      · rintro s51 w52 ⟨hds, f_2, f_4, f_8, f_14, o_x4, hb, hs⟩
        refine W_set 2 _ f_2 (W_set 4 _ f_4 (W_set 8 _ f_8 (W_set 14 _ f_14 ?_)))
        clear f_2 f_4 f_8 f_14
        refine W_seq (W_region (L_mv (L_call 37 [(S s)] (by kernel_rfl) (by kernel_rfl) (c_points_Span s _ (gcell_below hml hb) (by omega)) ?_)))
        rintro _ w53 ⟨rfl, hB54⟩
        replace hb := hb.trans (hB54.mono hs)
        replace hs := Nat.le_trans hs (hB54.size)
        replace o_x4 := obj_below o_x4 hB54
        refine L_mv (L_run (Value.agg #[(.int .i32 ((spanF s).1)), (.int .i32 ((spanF s).2.1))]) (by kernel_rfl) (by kernel_rfl) (L_run (.int .i64 ((spanF s).2.2)) (by kernel_rfl) (by kernel_rfl) (L_new (fun b => .pointer (some ⟨b, 0, none⟩)) (.cells [(.int .i32 0), (.int .i32 0)].toArray 29 (0, 0)) (by kernel_rfl) (by kernel_rfl) ?_)))
        intro b56 w57 hN58
        have ne_x4_x17 : b1 ≠ b56 := by have := obj_lt o_x4; have := hN58.num; omega
        have ne_x17_x4 := ne_x4_x17.symm
        have g_x17 : w.heap.size ≤ b56 := by rw [hN58.num]; exact hs
        replace hb := hb.trans (hN58.below.mono hs)
        replace hs := Nat.le_trans hs (hN58.below.size)
        replace o_x4 := obj_below o_x4 hN58.below
        have o_x17 := hN58.here
        refine L_storeA b56 0 [(.int .i32 ((spanF s).1)), (.int .i32 ((spanF s).2.1))] [(.int .i32 0), (.int .i32 0)] [(.int .i32 ((spanF s).1)), (.int .i32 ((spanF s).2.1))] 29 (by kernel_rfl) (by kernel_rfl) rfl (by kernel_rfl) o_x17 (by kernel_rfl) rfl ?_
        intro w59 hW60
        replace hb := hb.trans (hW60.below g_x17)
        replace hs := Nat.le_trans hs (Nat.le_of_eq hW60.size.symm)
        have n_o_x4 := obj_wrote o_x4 hW60 ne_x4_x17
        replace o_x4 := n_o_x4; clear n_o_x4
        replace o_x17 := hW60.here
        refine L_as (L_nil (thenQ_normal ?_))
        refine W_cut (fun s0 w0 => (s0.ds = []) ∧ (s0.f 4 = (.pointer (some ⟨b1, 0, none⟩))) ∧ (s0.f 8 = (.int .i64 ((showSpanF lo hi).2))) ∧ (w0.heap[b1]? = some (.cells [(.int .i32 lo), (.int .i32 hi)].toArray 29 (0, 0))) ∧ (w0.heap[b56]? = some (.cells [(.int .i32 ((spanF s).1)), (.int .i32 ((spanF s).2.1))].toArray 29 (0, 0))) ∧ (Below w.heap.size w w0) ∧ (w.heap.size ≤ w0.heap.size)) ?_ ?_
        · refine W_seq (W_region (L_mv (L_cmp .i64 ((spanF s).2.2) 0 ((spanF s).2.2 = 0) rfl (cmp_eq ((spanF s).2.2) 0) (by kernel_rfl) (by kernel_rfl) ?_ ?_)))
          · intro h61
            replace h61 : (spanF s).2.2 = 0 := by omega
            refine L_mv (L_want (by kernel_rfl) (L_run (.pointer (some ⟨b56, 0, none⟩)) (by kernel_rfl) (by kernel_rfl) (L_want (by kernel_rfl) (L_load b56 0 (.int .i32 ((spanF s).1)) (by kernel_rfl) (by kernel_rfl) (cell_obj o_x17 rfl) (L_want (by kernel_rfl) (L_run (.pointer (some ⟨b56, 1, none⟩)) (by kernel_rfl) (by kernel_rfl) (L_want (by kernel_rfl) (L_load b56 1 (.int .i32 ((spanF s).2.1)) (by kernel_rfl) (by kernel_rfl) (cell_obj o_x17 rfl) (L_want (by kernel_rfl) (L_cmp .i32 ((spanF s).1) ((spanF s).2.1) ((spanF s).1 ≠ (spanF s).2.1) rfl (cmp_ne ((spanF s).1) ((spanF s).2.1)) (by kernel_rfl) (by kernel_rfl) ?_ ?_))))))))))
            · intro h62
              replace h62 : (spanF s).1 ≠ (spanF s).2.1 := by omega
              refine L_want (by kernel_rfl) (L_mv (L_skip (by kernel_rfl) (L_skip (by kernel_rfl) (L_skip (by kernel_rfl) (L_want (by kernel_rfl) (L_pickT (by kernel_rfl) (L_pickT (by kernel_rfl) (L_nil (thenQ_normal (W_true (by kernel_rfl) (W_seq (W_region (L_loadA b56 0 [(.int .i32 ((spanF s).1)), (.int .i32 ((spanF s).2.1))] (by kernel_rfl) (by kernel_rfl) (by kernel_rfl) (cells_at o_x17 0 (by kernel_rfl)) (L_call 39 [(Value.agg #[(.int .i32 ((spanF s).1)), (.int .i32 ((spanF s).2.1))])] (by kernel_rfl) (by kernel_rfl) (c_points_ShowSpan ((spanF s).1) ((spanF s).2.1) _ ) ?_))))))))))))))
              rintro _ w63 ⟨rfl, hB64⟩
              replace hb := hb.trans (hB64.mono hs)
              replace hs := Nat.le_trans hs (hB64.size)
              replace o_x4 := obj_below o_x4 hB64
              replace o_x17 := obj_below o_x17 hB64
              refine L_mv (L_run (S ((showSpanF ((spanF s).1) ((spanF s).2.1)).1)) (by kernel_rfl) (by kernel_rfl) (L_run (.int .i64 ((showSpanF ((spanF s).1) ((spanF s).2.1)).2)) (by kernel_rfl) (by kernel_rfl) (L_as (L_as (L_nil (thenQ_normal (W_seq (W_region (L_mv (L_cmp .i64 ((showSpanF ((spanF s).1) ((spanF s).2.1)).2) 0 ((showSpanF ((spanF s).1) ((spanF s).2.1)).2 ≠ 0) rfl (cmp_ne ((showSpanF ((spanF s).1) ((spanF s).2.1)).2) 0) (by kernel_rfl) (by kernel_rfl) ?_ ?_))))))))))
              · intro h66
                replace h66 : (showSpanF ((spanF s).1) ((spanF s).2.1)).2 ≠ 0 := by omega
                exfalso; have hq := show_span (s := s) (by assumption) (by first | exact .inl (by assumption) | exact .inr (by omega)); rw [hq] at h66; exact h66 rfl
              · intro h67
                replace h67 : (showSpanF ((spanF s).1) ((spanF s).2.1)).2 = 0 := by omega
                refine L_mv (L_want (by kernel_rfl) (L_mv (L_want (by kernel_rfl) (L_mv (L_want (by kernel_rfl) (L_sne ((showSpanF ((spanF s).1) ((spanF s).2.1)).1) s rfl (by kernel_rfl) (by kernel_rfl) ?_ ?_))))))
                · intro h68
                  exfalso; have hq := show_span (s := s) (by assumption) (by first | exact .inl (by assumption) | exact .inr (by omega)); rw [hq] at h68; exact h68 rfl
                · intro h69
                  refine L_pickF (by kernel_rfl) (L_nil (thenQ_normal (W_false (by kernel_rfl) (W_skip ?_))))
                  refine thenQ_normal ⟨hds, by kernel_rfl, by kernel_rfl, o_x4, o_x17, hb, hs⟩
            · intro h70
              replace h70 : (spanF s).1 = (spanF s).2.1 := by omega
              refine L_want (by kernel_rfl) (L_mv (L_want (by kernel_rfl) (L_mv (L_want (by kernel_rfl) (L_slen 9 s rfl Try.underlying9 (by kernel_rfl) (L_want (by kernel_rfl) (L_cmp .i64 (((s).length : Nat) : Int) ((6 : Nat) : Int) ((s).length ≤ 6) rfl (cmpN_le ((s).length) 6) (by kernel_rfl) (by kernel_rfl) ?_ ?_)))))))
              · intro h71
                replace h71 : (s).length ≤ 6 := by omega
                refine L_want (by kernel_rfl) (L_pickF (by kernel_rfl) (L_pickT (by kernel_rfl) (L_nil (thenQ_normal (W_true (by kernel_rfl) (W_seq (W_region (L_loadA b56 0 [(.int .i32 ((spanF s).1)), (.int .i32 ((spanF s).2.1))] (by kernel_rfl) (by kernel_rfl) (by kernel_rfl) (cells_at o_x17 0 (by kernel_rfl)) (L_call 39 [(Value.agg #[(.int .i32 ((spanF s).1)), (.int .i32 ((spanF s).2.1))])] (by kernel_rfl) (by kernel_rfl) (c_points_ShowSpan ((spanF s).1) ((spanF s).2.1) _ ) ?_)))))))))
                rintro _ w72 ⟨rfl, hB73⟩
                replace hb := hb.trans (hB73.mono hs)
                replace hs := Nat.le_trans hs (hB73.size)
                replace o_x4 := obj_below o_x4 hB73
                replace o_x17 := obj_below o_x17 hB73
                refine L_mv (L_run (S ((showSpanF ((spanF s).1) ((spanF s).2.1)).1)) (by kernel_rfl) (by kernel_rfl) (L_run (.int .i64 ((showSpanF ((spanF s).1) ((spanF s).2.1)).2)) (by kernel_rfl) (by kernel_rfl) (L_as (L_as (L_nil (thenQ_normal (W_seq (W_region (L_mv (L_cmp .i64 ((showSpanF ((spanF s).1) ((spanF s).2.1)).2) 0 ((showSpanF ((spanF s).1) ((spanF s).2.1)).2 ≠ 0) rfl (cmp_ne ((showSpanF ((spanF s).1) ((spanF s).2.1)).2) 0) (by kernel_rfl) (by kernel_rfl) ?_ ?_))))))))))
                · intro h75
                  replace h75 : (showSpanF ((spanF s).1) ((spanF s).2.1)).2 ≠ 0 := by omega
                  exfalso; have hq := show_span (s := s) (by assumption) (by first | exact .inl (by assumption) | exact .inr (by omega)); rw [hq] at h75; exact h75 rfl
                · intro h76
                  replace h76 : (showSpanF ((spanF s).1) ((spanF s).2.1)).2 = 0 := by omega
                  refine L_mv (L_want (by kernel_rfl) (L_mv (L_want (by kernel_rfl) (L_mv (L_want (by kernel_rfl) (L_sne ((showSpanF ((spanF s).1) ((spanF s).2.1)).1) s rfl (by kernel_rfl) (by kernel_rfl) ?_ ?_))))))
                  · intro h77
                    exfalso; have hq := show_span (s := s) (by assumption) (by first | exact .inl (by assumption) | exact .inr (by omega)); rw [hq] at h77; exact h77 rfl
                  · intro h78
                    refine L_pickF (by kernel_rfl) (L_nil (thenQ_normal (W_false (by kernel_rfl) (W_skip ?_))))
                    refine thenQ_normal ⟨hds, by kernel_rfl, by kernel_rfl, o_x4, o_x17, hb, hs⟩
              · intro h79
                replace h79 : 6 < (s).length := by omega
                refine L_want (by kernel_rfl) (L_pickF (by kernel_rfl) (L_pickT (by kernel_rfl) (L_nil (thenQ_normal (W_false (by kernel_rfl) (W_skip ?_))))))
                refine thenQ_normal ⟨hds, by kernel_rfl, by kernel_rfl, o_x4, o_x17, hb, hs⟩
          · intro h80
            replace h80 : (spanF s).2.2 ≠ 0 := by omega
            refine L_mv (L_skip (by kernel_rfl) (L_skip (by kernel_rfl) (L_skip (by kernel_rfl) (L_skip (by kernel_rfl) (L_skip (by kernel_rfl) (L_skip (by kernel_rfl) (L_skip (by kernel_rfl) (L_skip (by kernel_rfl) (L_skip (by kernel_rfl) (L_skip (by kernel_rfl) (L_pickF (by kernel_rfl) (L_nil (thenQ_normal (W_false (by kernel_rfl) (W_skip ?_)))))))))))))))
            refine thenQ_normal ⟨hds, by kernel_rfl, by kernel_rfl, o_x4, o_x17, hb, hs⟩
        · rintro s81 w82 ⟨hds, f_4, f_8, o_x4, o_x17, hb, hs⟩
          refine W_set 4 _ f_4 (W_set 8 _ f_8 ?_)
          clear f_4 f_8
          refine W_seq (W_region (L_mv (L_cmp .i64 ((showSpanF lo hi).2) 0 ((showSpanF lo hi).2 = 0) rfl (cmp_eq ((showSpanF lo hi).2) 0) (by kernel_rfl) (by kernel_rfl) ?_ ?_)))
          · intro h83
            replace h83 : (showSpanF lo hi).2 = 0 := by omega
            refine L_loadA b1 0 [(.int .i32 lo), (.int .i32 hi)] (by kernel_rfl) (by kernel_rfl) (by kernel_rfl) (cells_at o_x4 0 (by kernel_rfl)) (L_call 35 [(Value.agg #[(.int .i32 lo), (.int .i32 hi)])] (by kernel_rfl) (by kernel_rfl) (c_points_May lo hi _ ) ?_)
            rintro _ w84 ⟨rfl, hB85⟩
            replace hb := hb.trans (hB85.mono hs)
            replace hs := Nat.le_trans hs (hB85.size)
            replace o_x4 := obj_below o_x4 hB85
            replace o_x17 := obj_below o_x17 hB85
            refine put_split (mayF lo hi) ?_ ?_
            · intro h87
              refine L_run (.bool true) (by kernel_rfl) (by kernel_rfl) (L_mv (L_want (by kernel_rfl) (L_call 11 [] (by kernel_rfl) (by kernel_rfl) (c_lives  _ (gcell_below hml hb)) ?_)))
              rintro _ w88 ⟨rfl, hB89⟩
              replace hb := hb.trans (hB89.mono hs)
              replace hs := Nat.le_trans hs (hB89.size)
              replace o_x4 := obj_below o_x4 hB89
              replace o_x17 := obj_below o_x17 hB89
              refine L_pickT (by kernel_rfl) (L_as (L_nil (thenQ_normal (W_ret ?_))))
              refine end_ret [.tmp 6] [(.bool true)] rfl hds ⟨by kernel_rfl, trivial⟩ ?_
              have e0 : true = true := by first | rfl | (exfalso; have hq := span_ok (lo := lo) (hi := hi); simp_all; done)
              exact ⟨congrArg Value.bool e0, hb⟩
            · intro h91
              refine L_run (.bool false) (by kernel_rfl) (by kernel_rfl) (L_mv (L_skip (by kernel_rfl) (L_pickF (by kernel_rfl) (L_as (L_nil (thenQ_normal (W_ret ?_)))))))
              refine end_ret [.tmp 6] [(.bool false)] rfl hds ⟨by kernel_rfl, trivial⟩ ?_
              have e0 : false = true := by first | rfl | (exfalso; have hq := span_ok (lo := lo) (hi := hi); simp_all; done)
              exact ⟨congrArg Value.bool e0, hb⟩
          · intro h92
            replace h92 : (showSpanF lo hi).2 ≠ 0 := by omega
            refine L_loadA b1 0 [(.int .i32 lo), (.int .i32 hi)] (by kernel_rfl) (by kernel_rfl) (by kernel_rfl) (cells_at o_x4 0 (by kernel_rfl)) (L_call 35 [(Value.agg #[(.int .i32 lo), (.int .i32 hi)])] (by kernel_rfl) (by kernel_rfl) (c_points_May lo hi _ ) ?_)
            rintro _ w93 ⟨rfl, hB94⟩
            replace hb := hb.trans (hB94.mono hs)
            replace hs := Nat.le_trans hs (hB94.size)
            replace o_x4 := obj_below o_x4 hB94
            replace o_x17 := obj_below o_x17 hB94
            refine put_split (mayF lo hi) ?_ ?_
            · intro h96
              refine L_run (.bool false) (by kernel_rfl) (by kernel_rfl) (L_mv (L_skip (by kernel_rfl) (L_pickF (by kernel_rfl) (L_as (L_nil (thenQ_normal (W_ret ?_)))))))
              refine end_ret [.tmp 6] [(.bool false)] rfl hds ⟨by kernel_rfl, trivial⟩ ?_
              have e0 : false = true := by first | rfl | (exfalso; have hq := span_ok (lo := lo) (hi := hi); simp_all; done)
              exact ⟨congrArg Value.bool e0, hb⟩
            · intro h97
              refine L_run (.bool true) (by kernel_rfl) (by kernel_rfl) (L_mv (L_want (by kernel_rfl) (L_call 11 [] (by kernel_rfl) (by kernel_rfl) (c_lives  _ (gcell_below hml hb)) ?_)))
              rintro _ w98 ⟨rfl, hB99⟩
              replace hb := hb.trans (hB99.mono hs)
              replace hs := Nat.le_trans hs (hB99.size)
              replace o_x4 := obj_below o_x4 hB99
              replace o_x17 := obj_below o_x17 hB99
              refine L_pickT (by kernel_rfl) (L_as (L_nil (thenQ_normal (W_ret ?_))))
              refine end_ret [.tmp 6] [(.bool true)] rfl hds ⟨by kernel_rfl, trivial⟩ ?_
              have e0 : true = true := by first | rfl | (exfalso; have hq := span_ok (lo := lo) (hi := hi); simp_all; done)
              exact ⟨congrArg Value.bool e0, hb⟩

end Go.Proofs.Ytmjkegpbbhafjaa
