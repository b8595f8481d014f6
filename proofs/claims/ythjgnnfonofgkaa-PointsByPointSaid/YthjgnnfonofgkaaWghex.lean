/- Walks, written by my program walk.py out of the specification ghex.py: each theorem says what one function returns and that it leaves memory as it was. -/
import Derived.Test.YthjgnnfonofgkaaPHex
import Derived.Test.YthjgnnfonofgkaaFKr
import Derived.Test.YthjgnnfonofgkaaProg
import Derived.Tactics2
namespace Go.Proofs.Ythjgnnfonofgkaa
open Go Go.RowKit Go.FK
set_option linter.unusedVariables false
set_option linter.unusedSimpArgs false


theorem c_strings_IndexByte (s : List UInt8) (c : Int) (w : World) :
    Calls Try.prog 131 #[(S s), (.int .u8 c)] w (Ret fun v w' => v = (.int .i64 (ibF s c)) ∧ Below w.heap.size w w') :=
  indexByte_contract Try.strings_IndexByte s c w

set_option maxHeartbeats 4000000 in
set_option maxRecDepth 100000 in
theorem c_points_May (lo : Int) (hi : Int) (w : World) :
    Calls Try.prog 50 #[(Value.agg #[(.int .i32 lo), (.int .i32 hi)])] w (Ret fun v w' => v = (.bool (mayF lo hi)) ∧ Below w.heap.size w w') := by
  refine enter (args := [(Value.agg #[(.int .i32 lo), (.int .i32 hi)])]) Try.func50 rfl (by kernel_rfl : _ = 18) (by kernel_rfl) ?_
  have hb := Below.refl w.heap.size w
  have hs : w.heap.size ≤ w.heap.size := Nat.le_refl _
  refine W_seq (W_region (L_new (fun b => .pointer (some ⟨b, 0, none⟩)) (.cells [(.int .i32 lo), (.int .i32 hi)].toArray 29 (0, 0)) (by kernel_rfl) (by kernel_rfl) ?_))
  intro b1 w2 hN3
  have g_x1 : w.heap.size ≤ b1 := by rw [hN3.num]; exact hs
  replace hb := hb.trans (hN3.below.mono hs)
  replace hs := Nat.le_trans hs (hN3.below.size)
  have o_x1 := hN3.here
  refine L_as (L_nil (thenQ_normal (W_seq (W_region (L_run (.pointer (some ⟨b1, 0, none⟩)) (by kernel_rfl) (by kernel_rfl) (L_load b1 0 (.int .i32 lo) (by kernel_rfl) (by kernel_rfl) (cell_obj o_x1 rfl) (L_cmp .i32 lo 0 (0 ≤ lo) rfl (cmp_ge lo 0) (by kernel_rfl) (by kernel_rfl) ?_ ?_)))))))
  · intro h4
    replace h4 : 0 ≤ lo := by omega
    refine L_mv (L_want (by kernel_rfl) (L_run (.pointer (some ⟨b1, 0, none⟩)) (by kernel_rfl) (by kernel_rfl) (L_want (by kernel_rfl) (L_load b1 0 (.int .i32 lo) (by kernel_rfl) (by kernel_rfl) (cell_obj o_x1 rfl) (L_want (by kernel_rfl) (L_run (.pointer (some ⟨b1, 1, none⟩)) (by kernel_rfl) (by kernel_rfl) (L_want (by kernel_rfl) (L_load b1 1 (.int .i32 hi) (by kernel_rfl) (by kernel_rfl) (cell_obj o_x1 rfl) (L_want (by kernel_rfl) (L_cmp .i32 lo hi (lo ≤ hi) rfl (cmp_le lo hi) (by kernel_rfl) (by kernel_rfl) ?_ ?_))))))))))
    · intro h5
      replace h5 : lo ≤ hi := by omega
      refine L_pickT (by kernel_rfl) (L_mv (L_want (by kernel_rfl) (L_run (.pointer (some ⟨b1, 1, none⟩)) (by kernel_rfl) (by kernel_rfl) (L_want (by kernel_rfl) (L_load b1 1 (.int .i32 hi) (by kernel_rfl) (by kernel_rfl) (cell_obj o_x1 rfl) (L_want (by kernel_rfl) (L_cmp .i32 hi 1114111 (hi ≤ 1114111) rfl (cmp_le hi 1114111) (by kernel_rfl) (by kernel_rfl) ?_ ?_)))))))
      · intro h6
        replace h6 : hi ≤ 1114111 := by omega
        refine L_pickT (by kernel_rfl) (L_as (L_nil (thenQ_normal (W_ret ?_))))
        refine end_ret [.tmp 2] [(.bool true)] rfl rfl ⟨by kernel_rfl, trivial⟩ ?_
        have e0 : true = mayF lo hi := by first | exact (mayF_true (by omega) (by omega) (by omega)).symm | exact (mayF_false (by omega)).symm
        exact ⟨congrArg Value.bool e0, hb⟩
      · intro h7
        replace h7 : 1114111 < hi := by omega
        refine L_pickT (by kernel_rfl) (L_as (L_nil (thenQ_normal (W_ret ?_))))
        refine end_ret [.tmp 2] [(.bool false)] rfl rfl ⟨by kernel_rfl, trivial⟩ ?_
        have e0 : false = mayF lo hi := by first | exact (mayF_true (by omega) (by omega) (by omega)).symm | exact (mayF_false (by omega)).symm
        exact ⟨congrArg Value.bool e0, hb⟩
    · intro h8
      replace h8 : hi < lo := by omega
      refine L_pickT (by kernel_rfl) (L_mv (L_skip (by kernel_rfl) (L_skip (by kernel_rfl) (L_skip (by kernel_rfl) (L_pickF (by kernel_rfl) (L_as (L_nil (thenQ_normal (W_ret ?_)))))))))
      refine end_ret [.tmp 2] [(.bool false)] rfl rfl ⟨by kernel_rfl, trivial⟩ ?_
      have e0 : false = mayF lo hi := by first | exact (mayF_true (by omega) (by omega) (by omega)).symm | exact (mayF_false (by omega)).symm
      exact ⟨congrArg Value.bool e0, hb⟩
  · intro h9
    replace h9 : lo < 0 := by omega
    refine L_mv (L_skip (by kernel_rfl) (L_skip (by kernel_rfl) (L_skip (by kernel_rfl) (L_skip (by kernel_rfl) (L_skip (by kernel_rfl) (L_pickF (by kernel_rfl) (L_mv (L_skip (by kernel_rfl) (L_skip (by kernel_rfl) (L_skip (by kernel_rfl) (L_pickF (by kernel_rfl) (L_as (L_nil (thenQ_normal (W_ret ?_)))))))))))))))
    refine end_ret [.tmp 2] [(.bool false)] rfl rfl ⟨by kernel_rfl, trivial⟩ ?_
    have e0 : false = mayF lo hi := by first | exact (mayF_true (by omega) (by omega) (by omega)).symm | exact (mayF_false (by omega)).symm
    exact ⟨congrArg Value.bool e0, hb⟩

set_option maxHeartbeats 4000000 in
set_option maxRecDepth 100000 in
theorem c_furrowref04_May (lo : Int) (hi : Int) (w : World) :
    Calls Try.prog 138 #[(Value.agg #[(.int .i32 lo), (.int .i32 hi)])] w (Ret fun v w' => v = (.bool (mayF lo hi)) ∧ Below w.heap.size w w') := by
  refine enter (args := [(Value.agg #[(.int .i32 lo), (.int .i32 hi)])]) Try.func138 rfl (by kernel_rfl : _ = 18) (by kernel_rfl) ?_
  have hb := Below.refl w.heap.size w
  have hs : w.heap.size ≤ w.heap.size := Nat.le_refl _
  refine W_seq (W_region (L_new (fun b => .pointer (some ⟨b, 0, none⟩)) (.cells [(.int .i32 lo), (.int .i32 hi)].toArray 29 (0, 0)) (by kernel_rfl) (by kernel_rfl) ?_))
  intro b1 w2 hN3
  have g_x1 : w.heap.size ≤ b1 := by rw [hN3.num]; exact hs
  replace hb := hb.trans (hN3.below.mono hs)
  replace hs := Nat.le_trans hs (hN3.below.size)
  have o_x1 := hN3.here
  refine L_as (L_nil (thenQ_normal (W_seq (W_region (L_run (.pointer (some ⟨b1, 0, none⟩)) (by kernel_rfl) (by kernel_rfl) (L_load b1 0 (.int .i32 lo) (by kernel_rfl) (by kernel_rfl) (cell_obj o_x1 rfl) (L_cmp .i32 lo 0 (0 ≤ lo) rfl (cmp_ge lo 0) (by kernel_rfl) (by kernel_rfl) ?_ ?_)))))))
  · intro h4
    replace h4 : 0 ≤ lo := by omega
    refine L_mv (L_want (by kernel_rfl) (L_run (.pointer (some ⟨b1, 1, none⟩)) (by kernel_rfl) (by kernel_rfl) (L_want (by kernel_rfl) (L_load b1 1 (.int .i32 hi) (by kernel_rfl) (by kernel_rfl) (cell_obj o_x1 rfl) (L_want (by kernel_rfl) (L_cmp .i32 hi 1114111 (hi ≤ 1114111) rfl (cmp_le hi 1114111) (by kernel_rfl) (by kernel_rfl) ?_ ?_))))))
    · intro h5
      replace h5 : hi ≤ 1114111 := by omega
      refine L_pickT (by kernel_rfl) (L_mv (L_want (by kernel_rfl) (L_run (.pointer (some ⟨b1, 0, none⟩)) (by kernel_rfl) (by kernel_rfl) (L_want (by kernel_rfl) (L_load b1 0 (.int .i32 lo) (by kernel_rfl) (by kernel_rfl) (cell_obj o_x1 rfl) (L_want (by kernel_rfl) (L_run (.pointer (some ⟨b1, 1, none⟩)) (by kernel_rfl) (by kernel_rfl) (L_want (by kernel_rfl) (L_load b1 1 (.int .i32 hi) (by kernel_rfl) (by kernel_rfl) (cell_obj o_x1 rfl) (L_want (by kernel_rfl) (L_cmp .i32 lo hi (lo ≤ hi) rfl (cmp_le lo hi) (by kernel_rfl) (by kernel_rfl) ?_ ?_)))))))))))
      · intro h6
        replace h6 : lo ≤ hi := by omega
        refine L_pickT (by kernel_rfl) (L_as (L_nil (thenQ_normal (W_ret ?_))))
        refine end_ret [.tmp 2] [(.bool true)] rfl rfl ⟨by kernel_rfl, trivial⟩ ?_
        have e0 : true = mayF lo hi := by first | exact (mayF_true (by omega) (by omega) (by omega)).symm | exact (mayF_false (by omega)).symm
        exact ⟨congrArg Value.bool e0, hb⟩
      · intro h7
        replace h7 : hi < lo := by omega
        refine L_pickT (by kernel_rfl) (L_as (L_nil (thenQ_normal (W_ret ?_))))
        refine end_ret [.tmp 2] [(.bool false)] rfl rfl ⟨by kernel_rfl, trivial⟩ ?_
        have e0 : false = mayF lo hi := by first | exact (mayF_true (by omega) (by omega) (by omega)).symm | exact (mayF_false (by omega)).symm
        exact ⟨congrArg Value.bool e0, hb⟩
    · intro h8
      replace h8 : 1114111 < hi := by omega
      refine L_pickT (by kernel_rfl) (L_mv (L_skip (by kernel_rfl) (L_skip (by kernel_rfl) (L_skip (by kernel_rfl) (L_skip (by kernel_rfl) (L_skip (by kernel_rfl) (L_pickF (by kernel_rfl) (L_as (L_nil (thenQ_normal (W_ret ?_)))))))))))
      refine end_ret [.tmp 2] [(.bool false)] rfl rfl ⟨by kernel_rfl, trivial⟩ ?_
      have e0 : false = mayF lo hi := by first | exact (mayF_true (by omega) (by omega) (by omega)).symm | exact (mayF_false (by omega)).symm
      exact ⟨congrArg Value.bool e0, hb⟩
  · intro h9
    replace h9 : lo < 0 := by omega
    refine L_mv (L_skip (by kernel_rfl) (L_skip (by kernel_rfl) (L_skip (by kernel_rfl) (L_pickF (by kernel_rfl) (L_mv (L_skip (by kernel_rfl) (L_skip (by kernel_rfl) (L_skip (by kernel_rfl) (L_skip (by kernel_rfl) (L_skip (by kernel_rfl) (L_pickF (by kernel_rfl) (L_as (L_nil (thenQ_normal (W_ret ?_)))))))))))))))
    refine end_ret [.tmp 2] [(.bool false)] rfl rfl ⟨by kernel_rfl, trivial⟩ ?_
    have e0 : false = mayF lo hi := by first | exact (mayF_true (by omega) (by omega) (by omega)).symm | exact (mayF_false (by omega)).symm
    exact ⟨congrArg Value.bool e0, hb⟩

set_option maxHeartbeats 4000000 in
set_option maxRecDepth 100000 in
theorem c_points_Hex (s : List UInt8) (w : World) (hs : s.length ≤ 1073741824) :
    Calls Try.prog 91 #[(S s)] w (Ret fun v w' => v = (.tuple #[(.int .i32 ((hexF s).1)), (.int .i64 ((hexF s).2))]) ∧ Below w.heap.size w w') := by
  refine enter (args := [(S s)]) Try.func91 rfl (by kernel_rfl : _ = 45) (by kernel_rfl) ?_
  have hb := Below.refl w.heap.size w
  have hs : w.heap.size ≤ w.heap.size := Nat.le_refl _
  refine W_seq (W_region (L_as (L_as (L_nil (thenQ_normal (W_seq (W_seq (W_region (L_mv (L_slen 9 s rfl Try.underlying9 (by kernel_rfl) (L_cmp .i64 (((s).length : Nat) : Int) ((4 : Nat) : Int) ((s).length < 4) rfl (cmpN_lt ((s).length) 4) (by kernel_rfl) (by kernel_rfl) ?_ ?_)))))))))))
  · intro h1
    replace h1 : (s).length < 4 := by omega
    refine L_mv (L_skip (by kernel_rfl) (L_skip (by kernel_rfl) (L_skip (by kernel_rfl) (L_pickT (by kernel_rfl) (L_mv (L_skip (by kernel_rfl) (L_skip (by kernel_rfl) (L_skip (by kernel_rfl) (L_skip (by kernel_rfl) (L_skip (by kernel_rfl) (L_skip (by kernel_rfl) (L_skip (by kernel_rfl) (L_skip (by kernel_rfl) (L_pickT (by kernel_rfl) (L_nil (thenQ_normal (W_true (by kernel_rfl) (W_seq (W_region (L_as (L_as (L_nil (thenQ_normal (W_ret (thenQ_ret ?_)))))))))))))))))))))))))
    refine end_ret [.tmp 2, .tmp 3] [(.int .i32 0), (.int .i64 40)] rfl rfl ⟨by kernel_rfl, by kernel_rfl, trivial⟩ ?_
    have hE : ((0 : Int) = (hexF s).1) ∧ ((40 : Int) = (hexF s).2) := ⟨(by first | (exfalso; omega) | (rw [hexF_len (by omega)]; done) | (rw [hexF_zero (by omega) (by assumption) (by omega)]; done) | (rw [hexF_bad i3 (by assumption) (by omega)]; done) | (rw [hexF_big (hexV_end i3 (by omega)) (by omega)]; done) | (rw [hexF_ok (hexV_end i3 (by omega)) (by omega) (by omega) (by omega) (.inl (by omega))]; done) | (rw [hexF_ok (hexV_end i3 (by omega)) (by omega) (by omega) (by omega) (.inr ⟨_, by assumption, by omega⟩)]; done)), (by first | (exfalso; omega) | (rw [hexF_len (by omega)]; done) | (rw [hexF_zero (by omega) (by assumption) (by omega)]; done) | (rw [hexF_bad i3 (by assumption) (by omega)]; done) | (rw [hexF_big (hexV_end i3 (by omega)) (by omega)]; done) | (rw [hexF_ok (hexV_end i3 (by omega)) (by omega) (by omega) (by omega) (.inl (by omega))]; done) | (rw [hexF_ok (hexV_end i3 (by omega)) (by omega) (by omega) (by omega) (.inr ⟨_, by assumption, by omega⟩)]; done))⟩
    exact ⟨tup2 (congrArg (Value.int .i32) hE.1) (congrArg (Value.int .i64) hE.2), hb⟩
  · intro h2
    replace h2 : 4 ≤ (s).length := by omega
    refine L_mv (L_want (by kernel_rfl) (L_mv (L_want (by kernel_rfl) (L_slen 9 s rfl Try.underlying9 (by kernel_rfl) (L_want (by kernel_rfl) (L_cmp .i64 (((s).length : Nat) : Int) ((6 : Nat) : Int) (6 < (s).length) rfl (cmpN_gt ((s).length) 6) (by kernel_rfl) (by kernel_rfl) ?_ ?_))))))
    · intro h3
      replace h3 : 6 < (s).length := by omega
      refine L_pickF (by kernel_rfl) (L_mv (L_skip (by kernel_rfl) (L_skip (by kernel_rfl) (L_skip (by kernel_rfl) (L_skip (by kernel_rfl) (L_skip (by kernel_rfl) (L_skip (by kernel_rfl) (L_skip (by kernel_rfl) (L_skip (by kernel_rfl) (L_pickT (by kernel_rfl) (L_nil (thenQ_normal (W_true (by kernel_rfl) (W_seq (W_region (L_as (L_as (L_nil (thenQ_normal (W_ret (thenQ_ret ?_)))))))))))))))))))))
      refine end_ret [.tmp 2, .tmp 3] [(.int .i32 0), (.int .i64 40)] rfl rfl ⟨by kernel_rfl, by kernel_rfl, trivial⟩ ?_
      have hE : ((0 : Int) = (hexF s).1) ∧ ((40 : Int) = (hexF s).2) := ⟨(by first | (exfalso; omega) | (rw [hexF_len (by omega)]; done) | (rw [hexF_zero (by omega) (by assumption) (by omega)]; done) | (rw [hexF_bad i3 (by assumption) (by omega)]; done) | (rw [hexF_big (hexV_end i3 (by omega)) (by omega)]; done) | (rw [hexF_ok (hexV_end i3 (by omega)) (by omega) (by omega) (by omega) (.inl (by omega))]; done) | (rw [hexF_ok (hexV_end i3 (by omega)) (by omega) (by omega) (by omega) (.inr ⟨_, by assumption, by omega⟩)]; done)), (by first | (exfalso; omega) | (rw [hexF_len (by omega)]; done) | (rw [hexF_zero (by omega) (by assumption) (by omega)]; done) | (rw [hexF_bad i3 (by assumption) (by omega)]; done) | (rw [hexF_big (hexV_end i3 (by omega)) (by omega)]; done) | (rw [hexF_ok (hexV_end i3 (by omega)) (by omega) (by omega) (by omega) (.inl (by omega))]; done) | (rw [hexF_ok (hexV_end i3 (by omega)) (by omega) (by omega) (by omega) (.inr ⟨_, by assumption, by omega⟩)]; done))⟩
      exact ⟨tup2 (congrArg (Value.int .i32) hE.1) (congrArg (Value.int .i64) hE.2), hb⟩
    · intro h4
      replace h4 : (s).length ≤ 6 := by omega
      refine L_pickF (by kernel_rfl) (L_mv (L_want (by kernel_rfl) (L_mv (L_want (by kernel_rfl) (L_slen 9 s rfl Try.underlying9 (by kernel_rfl) (L_want (by kernel_rfl) (L_cmp .i64 (((s).length : Nat) : Int) ((4 : Nat) : Int) (4 < (s).length) rfl (cmpN_gt ((s).length) 4) (by kernel_rfl) (by kernel_rfl) ?_ ?_)))))))
      · intro h5
        replace h5 : 4 < (s).length := by omega
        refine L_want (by kernel_rfl) (L_mv (L_want (by kernel_rfl) (L_mv (L_want (by kernel_rfl) ?_))))
        have hz := get_some s 0 (by omega); obtain ⟨c6, hc7⟩ := hz
        have := c6.toNat_lt
        have hdr := digitV_range c6.toNat
        have hib := ibF_tab c6
        refine L_sindex (k := .i64) s 0 c6 Try.underlying9 hc7 (by kernel_rfl) (by kernel_rfl) (L_want (by kernel_rfl) (L_cmp .u8 ((c6.toNat : Nat) : Int) ((48 : Nat) : Int) (c6.toNat = 48) rfl (cmpN_eq c6.toNat 48) (by kernel_rfl) (by kernel_rfl) ?_ ?_))
        · intro h8
          replace h8 : c6.toNat = 48 := by omega
          refine L_want (by kernel_rfl) (L_pickT (by kernel_rfl) (L_pickF (by kernel_rfl) (L_nil (thenQ_normal (W_true (by kernel_rfl) (W_seq (W_region (L_as (L_as (L_nil (thenQ_normal (W_ret (thenQ_ret ?_)))))))))))))
          refine end_ret [.tmp 2, .tmp 3] [(.int .i32 0), (.int .i64 40)] rfl rfl ⟨by kernel_rfl, by kernel_rfl, trivial⟩ ?_
          have hE : ((0 : Int) = (hexF s).1) ∧ ((40 : Int) = (hexF s).2) := ⟨(by first | (exfalso; omega) | (rw [hexF_len (by omega)]; done) | (rw [hexF_zero (by omega) (by assumption) (by omega)]; done) | (rw [hexF_bad i3 (by assumption) (by omega)]; done) | (rw [hexF_big (hexV_end i3 (by omega)) (by omega)]; done) | (rw [hexF_ok (hexV_end i3 (by omega)) (by omega) (by omega) (by omega) (.inl (by omega))]; done) | (rw [hexF_ok (hexV_end i3 (by omega)) (by omega) (by omega) (by omega) (.inr ⟨_, by assumption, by omega⟩)]; done)), (by first | (exfalso; omega) | (rw [hexF_len (by omega)]; done) | (rw [hexF_zero (by omega) (by assumption) (by omega)]; done) | (rw [hexF_bad i3 (by assumption) (by omega)]; done) | (rw [hexF_big (hexV_end i3 (by omega)) (by omega)]; done) | (rw [hexF_ok (hexV_end i3 (by omega)) (by omega) (by omega) (by omega) (.inl (by omega))]; done) | (rw [hexF_ok (hexV_end i3 (by omega)) (by omega) (by omega) (by omega) (.inr ⟨_, by assumption, by omega⟩)]; done))⟩
          exact ⟨tup2 (congrArg (Value.int .i32) hE.1) (congrArg (Value.int .i64) hE.2), hb⟩
        · intro h9
          replace h9 : c6.toNat ≠ 48 := by omega
          refine L_want (by kernel_rfl) (L_pickT (by kernel_rfl) (L_pickF (by kernel_rfl) (L_nil (thenQ_normal (W_false (by kernel_rfl) (W_skip (thenQ_normal (W_seq (W_region (L_as (L_nil (thenQ_normal (W_seq (W_seq (W_region (L_mv (L_slen 9 s rfl Try.underlying9 (by kernel_rfl) (L_mv (L_nil (thenQ_normal (W_block ?_)))))))))))))))))))))
          refine W_loop (fun m s0 w0 => ∃ (i : Nat) (n : Nat), (m = s.length - i) ∧ (s0.ds = []) ∧ (s0.f 0 = (S s)) ∧ (s0.f 26 = (.int .i64 (((s).length : Nat) : Int))) ∧ (s0.f 4 = (.int .i32 ((n : Nat) : Int))) ∧ (s0.f 27 = (.int .i64 ((i : Nat) : Int))) ∧ (Below w.heap.size w w0) ∧ (w.heap.size ≤ w0.heap.size) ∧ (i ≤ s.length) ∧ (n < 16 ^ i) ∧ (hexV (s.drop i) n = hexV s 0)) _ ⟨0, 0, rfl, by kernel_rfl, by kernel_rfl, by kernel_rfl, by kernel_rfl, by kernel_rfl, hb, hs, by omega, by decide, rfl⟩ ?_
          rintro m10 s11 w12 ⟨i, n, hm, hds, f_0, f_26, f_4, f_27, hb, hs, i1, i2, i3⟩
          refine W_set 0 _ f_0 (W_set 26 _ f_26 (W_set 4 _ f_4 (W_set 27 _ f_27 ?_)))
          clear f_0 f_26 f_4 f_27
          have hp5 : i ≤ 5 → n < 1048576 := pow16 i2
          have hp6 : i ≤ 6 → n < 16777216 := pow166 i2
          refine W_seq (W_region (L_cmp .i64 ((i : Nat) : Int) (((s).length : Nat) : Int) (i < (s).length) rfl (cmpN_lt i ((s).length)) (by kernel_rfl) (by kernel_rfl) ?_ ?_))
          · intro h13
            replace h13 : i < (s).length := by omega
            refine L_nil (thenQ_normal (W_seq (W_true (by kernel_rfl) (W_skip (thenQ_normal (W_seq (W_block (W_seq (W_region (L_mv (L_as (L_nil (thenQ_normal (W_seq (W_region (L_mv (L_mv ?_)))))))))))))))))
            have hz := get_some s i (by omega); obtain ⟨c14, hc15⟩ := hz
            have := c14.toNat_lt
            have hdr := digitV_range c14.toNat
            have hib := ibF_tab c14
            refine L_sindex (k := .i64) s i c14 Try.underlying9 hc15 (by kernel_rfl) (by kernel_rfl) (L_call 131 [(S ([48, 49, 50, 51, 52, 53, 54, 55, 56, 57, 65, 66, 67, 68, 69, 70] : List UInt8)), (.int .u8 ((c14.toNat : Nat) : Int))] (by kernel_rfl) (by kernel_rfl) (c_strings_IndexByte ([48, 49, 50, 51, 52, 53, 54, 55, 56, 57, 65, 66, 67, 68, 69, 70] : List UInt8) ((c14.toNat : Nat) : Int) _ ) ?_)
            rintro _ w16 ⟨rfl, hB17⟩
            replace hb := hb.trans (hB17.mono hs)
            replace hs := Nat.le_trans hs (hB17.size)
            refine L_as (L_nil (thenQ_normal (W_seq (W_seq (W_region (L_mv (L_cmp .i64 (ibF ([48, 49, 50, 51, 52, 53, 54, 55, 56, 57, 65, 66, 67, 68, 69, 70] : List UInt8) ((c14.toNat : Nat) : Int)) 0 ((ibF ([48, 49, 50, 51, 52, 53, 54, 55, 56, 57, 65, 66, 67, 68, 69, 70] : List UInt8) ((c14.toNat : Nat) : Int)) < 0) rfl (cmp_lt (ibF ([48, 49, 50, 51, 52, 53, 54, 55, 56, 57, 65, 66, 67, 68, 69, 70] : List UInt8) ((c14.toNat : Nat) : Int)) 0) (by kernel_rfl) (by kernel_rfl) ?_ ?_)))))))
            · intro h19
              replace h19 : (ibF ([48, 49, 50, 51, 52, 53, 54, 55, 56, 57, 65, 66, 67, 68, 69, 70] : List UInt8) ((c14.toNat : Nat) : Int)) < 0 := by omega
              refine L_nil (thenQ_normal (W_true (by kernel_rfl) (W_seq (W_region (L_as (L_as (L_nil (thenQ_normal (W_ret (thenQ_ret (blkQ_ret (thenQ_ret (thenQ_ret (blkQ_ret (thenQ_ret ?_)))))))))))))))
              refine end_ret [.tmp 2, .tmp 3] [(.int .i32 0), (.int .i64 40)] rfl hds ⟨by kernel_rfl, by kernel_rfl, trivial⟩ ?_
              have hE : ((0 : Int) = (hexF s).1) ∧ ((40 : Int) = (hexF s).2) := ⟨(by first | (exfalso; omega) | (rw [hexF_len (by omega)]; done) | (rw [hexF_zero (by omega) (by assumption) (by omega)]; done) | (rw [hexF_bad i3 (by assumption) (by omega)]; done) | (rw [hexF_big (hexV_end i3 (by omega)) (by omega)]; done) | (rw [hexF_ok (hexV_end i3 (by omega)) (by omega) (by omega) (by omega) (.inl (by omega))]; done) | (rw [hexF_ok (hexV_end i3 (by omega)) (by omega) (by omega) (by omega) (.inr ⟨_, by assumption, by omega⟩)]; done)), (by first | (exfalso; omega) | (rw [hexF_len (by omega)]; done) | (rw [hexF_zero (by omega) (by assumption) (by omega)]; done) | (rw [hexF_bad i3 (by assumption) (by omega)]; done) | (rw [hexF_big (hexV_end i3 (by omega)) (by omega)]; done) | (rw [hexF_ok (hexV_end i3 (by omega)) (by omega) (by omega) (by omega) (.inl (by omega))]; done) | (rw [hexF_ok (hexV_end i3 (by omega)) (by omega) (by omega) (by omega) (.inr ⟨_, by assumption, by omega⟩)]; done))⟩
              exact ⟨tup2 (congrArg (Value.int .i32) hE.1) (congrArg (Value.int .i64) hE.2), hb⟩
            · intro h20
              replace h20 : 0 ≤ (ibF ([48, 49, 50, 51, 52, 53, 54, 55, 56, 57, 65, 66, 67, 68, 69, 70] : List UInt8) ((c14.toNat : Nat) : Int)) := by omega
              refine L_nil (thenQ_normal (W_false (by kernel_rfl) (W_skip (thenQ_normal (W_region (L_mv (L_shl (k := .i32) (yk := .u64) ((n : Nat) : Int) (((16 * n) : Nat) : Int) 4 16 rfl (by kernel_rfl) (by kernel_rfl) (by kernel_rfl) (by rw [wrap_i32 _ (by omega) (by omega)]; omega) (L_mv (L_conv (k := .i64) (ibF ([48, 49, 50, 51, 52, 53, 54, 55, 56, 57, 65, 66, 67, 68, 69, 70] : List UInt8) ((c14.toNat : Nat) : Int)) (ibF ([48, 49, 50, 51, 52, 53, 54, 55, 56, 57, 65, 66, 67, 68, 69, 70] : List UInt8) ((c14.toNat : Nat) : Int)) (by kernel_rfl) Try.underlying21 (by kernel_rfl) (wrap_i32 _ (by omega) (by omega)) (L_orD (((16 * n) : Nat) : Int) (ibF ([48, 49, 50, 51, 52, 53, 54, 55, 56, 57, 65, 66, 67, 68, 69, 70] : List UInt8) ((c14.toNat : Nat) : Int)) n ((ibF ([48, 49, 50, 51, 52, 53, 54, 55, 56, 57, 65, 66, 67, 68, 69, 70] : List UInt8) ((c14.toNat : Nat) : Int)).toNat) (by omega) (by omega) (by kernel_rfl) (by kernel_rfl) (L_as (L_nil (blkQ_normal (thenQ_normal (W_region (L_addN i 1 (by omega) (by kernel_rfl) (by kernel_rfl) (L_mv (L_nil ?_))))))))))))))))))
              refine thenQ_normal ⟨_, ?_, (i + 1), (16 * n + ((ibF ([48, 49, 50, 51, 52, 53, 54, 55, 56, 57, 65, 66, 67, 68, 69, 70] : List UInt8) ((c14.toNat : Nat) : Int)).toNat)), rfl, hds, by kernel_rfl, by kernel_rfl, by kernel_rfl, by kernel_rfl, hb, hs, ?_, ?_, ?_⟩
              · omega
              · omega
              · rw [hib]; exact pow16s i2 (by omega)
              · rw [hib]; exact hexV_step i3 (by assumption) (by omega)
          · intro h21
            replace h21 : (s).length ≤ i := by omega
            refine L_nil (thenQ_normal (W_seq (W_false (by kernel_rfl) (W_exit (thenQ_exit (thenQ_exit (blkQ_exit (thenQ_normal (W_seq (W_seq (W_region (L_mv (L_cmp .i32 ((n : Nat) : Int) ((1114111 : Nat) : Int) (1114111 < n) rfl (cmpN_gt n 1114111) (by kernel_rfl) (by kernel_rfl) ?_ ?_)))))))))))))
            · intro h22
              replace h22 : 1114111 < n := by omega
              refine L_nil (thenQ_normal (W_true (by kernel_rfl) (W_seq (W_region (L_as (L_as (L_nil (thenQ_normal (W_ret (thenQ_ret ?_))))))))))
              refine end_ret [.tmp 2, .tmp 3] [(.int .i32 0), (.int .i64 40)] rfl hds ⟨by kernel_rfl, by kernel_rfl, trivial⟩ ?_
              have hE : ((0 : Int) = (hexF s).1) ∧ ((40 : Int) = (hexF s).2) := ⟨(by first | (exfalso; omega) | (rw [hexF_len (by omega)]; done) | (rw [hexF_zero (by omega) (by assumption) (by omega)]; done) | (rw [hexF_bad i3 (by assumption) (by omega)]; done) | (rw [hexF_big (hexV_end i3 (by omega)) (by omega)]; done) | (rw [hexF_ok (hexV_end i3 (by omega)) (by omega) (by omega) (by omega) (.inl (by omega))]; done) | (rw [hexF_ok (hexV_end i3 (by omega)) (by omega) (by omega) (by omega) (.inr ⟨_, by assumption, by omega⟩)]; done)), (by first | (exfalso; omega) | (rw [hexF_len (by omega)]; done) | (rw [hexF_zero (by omega) (by assumption) (by omega)]; done) | (rw [hexF_bad i3 (by assumption) (by omega)]; done) | (rw [hexF_big (hexV_end i3 (by omega)) (by omega)]; done) | (rw [hexF_ok (hexV_end i3 (by omega)) (by omega) (by omega) (by omega) (.inl (by omega))]; done) | (rw [hexF_ok (hexV_end i3 (by omega)) (by omega) (by omega) (by omega) (.inr ⟨_, by assumption, by omega⟩)]; done))⟩
              exact ⟨tup2 (congrArg (Value.int .i32) hE.1) (congrArg (Value.int .i64) hE.2), hb⟩
            · intro h23
              replace h23 : n ≤ 1114111 := by omega
              refine L_nil (thenQ_normal (W_false (by kernel_rfl) (W_skip (thenQ_normal (W_seq (W_region (L_mv (L_as (L_as (L_nil (thenQ_normal (W_ret ?_))))))))))))
              refine end_ret [.tmp 2, .tmp 3] [(.int .i32 ((n : Nat) : Int)), (.int .i64 0)] rfl hds ⟨by kernel_rfl, by kernel_rfl, trivial⟩ ?_
              have hE : ((((n : Nat) : Int) : Int) = (hexF s).1) ∧ ((0 : Int) = (hexF s).2) := ⟨(by first | (exfalso; omega) | (rw [hexF_len (by omega)]; done) | (rw [hexF_zero (by omega) (by assumption) (by omega)]; done) | (rw [hexF_bad i3 (by assumption) (by omega)]; done) | (rw [hexF_big (hexV_end i3 (by omega)) (by omega)]; done) | (rw [hexF_ok (hexV_end i3 (by omega)) (by omega) (by omega) (by omega) (.inl (by omega))]; done) | (rw [hexF_ok (hexV_end i3 (by omega)) (by omega) (by omega) (by omega) (.inr ⟨_, by assumption, by omega⟩)]; done)), (by first | (exfalso; omega) | (rw [hexF_len (by omega)]; done) | (rw [hexF_zero (by omega) (by assumption) (by omega)]; done) | (rw [hexF_bad i3 (by assumption) (by omega)]; done) | (rw [hexF_big (hexV_end i3 (by omega)) (by omega)]; done) | (rw [hexF_ok (hexV_end i3 (by omega)) (by omega) (by omega) (by omega) (.inl (by omega))]; done) | (rw [hexF_ok (hexV_end i3 (by omega)) (by omega) (by omega) (by omega) (.inr ⟨_, by assumption, by omega⟩)]; done))⟩
              exact ⟨tup2 (congrArg (Value.int .i32) hE.1) (congrArg (Value.int .i64) hE.2), hb⟩
      · intro h24
        replace h24 : (s).length ≤ 4 := by omega
        refine L_want (by kernel_rfl) (L_mv (L_skip (by kernel_rfl) (L_skip (by kernel_rfl) (L_skip (by kernel_rfl) (L_want (by kernel_rfl) (L_pickF (by kernel_rfl) (L_pickF (by kernel_rfl) (L_nil (thenQ_normal (W_false (by kernel_rfl) (W_skip (thenQ_normal (W_seq (W_region (L_as (L_nil (thenQ_normal (W_seq (W_seq (W_region (L_mv (L_slen 9 s rfl Try.underlying9 (by kernel_rfl) (L_mv (L_nil (thenQ_normal (W_block ?_))))))))))))))))))))))))))
        refine W_loop (fun m s0 w0 => ∃ (i : Nat) (n : Nat), (m = s.length - i) ∧ (s0.ds = []) ∧ (s0.f 0 = (S s)) ∧ (s0.f 26 = (.int .i64 (((s).length : Nat) : Int))) ∧ (s0.f 4 = (.int .i32 ((n : Nat) : Int))) ∧ (s0.f 27 = (.int .i64 ((i : Nat) : Int))) ∧ (Below w.heap.size w w0) ∧ (w.heap.size ≤ w0.heap.size) ∧ (i ≤ s.length) ∧ (n < 16 ^ i) ∧ (hexV (s.drop i) n = hexV s 0)) _ ⟨0, 0, rfl, by kernel_rfl, by kernel_rfl, by kernel_rfl, by kernel_rfl, by kernel_rfl, hb, hs, by omega, by decide, rfl⟩ ?_
        rintro m25 s26 w27 ⟨i, n, hm, hds, f_0, f_26, f_4, f_27, hb, hs, i1, i2, i3⟩
        refine W_set 0 _ f_0 (W_set 26 _ f_26 (W_set 4 _ f_4 (W_set 27 _ f_27 ?_)))
        clear f_0 f_26 f_4 f_27
        have hp5 : i ≤ 5 → n < 1048576 := pow16 i2
        have hp6 : i ≤ 6 → n < 16777216 := pow166 i2
        refine W_seq (W_region (L_cmp .i64 ((i : Nat) : Int) (((s).length : Nat) : Int) (i < (s).length) rfl (cmpN_lt i ((s).length)) (by kernel_rfl) (by kernel_rfl) ?_ ?_))
        · intro h28
          replace h28 : i < (s).length := by omega
          refine L_nil (thenQ_normal (W_seq (W_true (by kernel_rfl) (W_skip (thenQ_normal (W_seq (W_block (W_seq (W_region (L_mv (L_as (L_nil (thenQ_normal (W_seq (W_region (L_mv (L_mv ?_)))))))))))))))))
          have hz := get_some s i (by omega); obtain ⟨c29, hc30⟩ := hz
          have := c29.toNat_lt
          have hdr := digitV_range c29.toNat
          have hib := ibF_tab c29
          refine L_sindex (k := .i64) s i c29 Try.underlying9 hc30 (by kernel_rfl) (by kernel_rfl) (L_call 131 [(S ([48, 49, 50, 51, 52, 53, 54, 55, 56, 57, 65, 66, 67, 68, 69, 70] : List UInt8)), (.int .u8 ((c29.toNat : Nat) : Int))] (by kernel_rfl) (by kernel_rfl) (c_strings_IndexByte ([48, 49, 50, 51, 52, 53, 54, 55, 56, 57, 65, 66, 67, 68, 69, 70] : List UInt8) ((c29.toNat : Nat) : Int) _ ) ?_)
          rintro _ w31 ⟨rfl, hB32⟩
          replace hb := hb.trans (hB32.mono hs)
          replace hs := Nat.le_trans hs (hB32.size)
          refine L_as (L_nil (thenQ_normal (W_seq (W_seq (W_region (L_mv (L_cmp .i64 (ibF ([48, 49, 50, 51, 52, 53, 54, 55, 56, 57, 65, 66, 67, 68, 69, 70] : List UInt8) ((c29.toNat : Nat) : Int)) 0 ((ibF ([48, 49, 50, 51, 52, 53, 54, 55, 56, 57, 65, 66, 67, 68, 69, 70] : List UInt8) ((c29.toNat : Nat) : Int)) < 0) rfl (cmp_lt (ibF ([48, 49, 50, 51, 52, 53, 54, 55, 56, 57, 65, 66, 67, 68, 69, 70] : List UInt8) ((c29.toNat : Nat) : Int)) 0) (by kernel_rfl) (by kernel_rfl) ?_ ?_)))))))
          · intro h34
            replace h34 : (ibF ([48, 49, 50, 51, 52, 53, 54, 55, 56, 57, 65, 66, 67, 68, 69, 70] : List UInt8) ((c29.toNat : Nat) : Int)) < 0 := by omega
            refine L_nil (thenQ_normal (W_true (by kernel_rfl) (W_seq (W_region (L_as (L_as (L_nil (thenQ_normal (W_ret (thenQ_ret (blkQ_ret (thenQ_ret (thenQ_ret (blkQ_ret (thenQ_ret ?_)))))))))))))))
            refine end_ret [.tmp 2, .tmp 3] [(.int .i32 0), (.int .i64 40)] rfl hds ⟨by kernel_rfl, by kernel_rfl, trivial⟩ ?_
            have hE : ((0 : Int) = (hexF s).1) ∧ ((40 : Int) = (hexF s).2) := ⟨(by first | (exfalso; omega) | (rw [hexF_len (by omega)]; done) | (rw [hexF_zero (by omega) (by assumption) (by omega)]; done) | (rw [hexF_bad i3 (by assumption) (by omega)]; done) | (rw [hexF_big (hexV_end i3 (by omega)) (by omega)]; done) | (rw [hexF_ok (hexV_end i3 (by omega)) (by omega) (by omega) (by omega) (.inl (by omega))]; done) | (rw [hexF_ok (hexV_end i3 (by omega)) (by omega) (by omega) (by omega) (.inr ⟨_, by assumption, by omega⟩)]; done)), (by first | (exfalso; omega) | (rw [hexF_len (by omega)]; done) | (rw [hexF_zero (by omega) (by assumption) (by omega)]; done) | (rw [hexF_bad i3 (by assumption) (by omega)]; done) | (rw [hexF_big (hexV_end i3 (by omega)) (by omega)]; done) | (rw [hexF_ok (hexV_end i3 (by omega)) (by omega) (by omega) (by omega) (.inl (by omega))]; done) | (rw [hexF_ok (hexV_end i3 (by omega)) (by omega) (by omega) (by omega) (.inr ⟨_, by assumption, by omega⟩)]; done))⟩
            exact ⟨tup2 (congrArg (Value.int .i32) hE.1) (congrArg (Value.int .i64) hE.2), hb⟩
          · intro h35
            replace h35 : 0 ≤ (ibF ([48, 49, 50, 51, 52, 53, 54, 55, 56, 57, 65, 66, 67, 68, 69, 70] : List UInt8) ((c29.toNat : Nat) : Int)) := by omega
            refine L_nil (thenQ_normal (W_false (by kernel_rfl) (W_skip (thenQ_normal (W_region (L_mv (L_shl (k := .i32) (yk := .u64) ((n : Nat) : Int) (((16 * n) : Nat) : Int) 4 16 rfl (by kernel_rfl) (by kernel_rfl) (by kernel_rfl) (by rw [wrap_i32 _ (by omega) (by omega)]; omega) (L_mv (L_conv (k := .i64) (ibF ([48, 49, 50, 51, 52, 53, 54, 55, 56, 57, 65, 66, 67, 68, 69, 70] : List UInt8) ((c29.toNat : Nat) : Int)) (ibF ([48, 49, 50, 51, 52, 53, 54, 55, 56, 57, 65, 66, 67, 68, 69, 70] : List UInt8) ((c29.toNat : Nat) : Int)) (by kernel_rfl) Try.underlying21 (by kernel_rfl) (wrap_i32 _ (by omega) (by omega)) (L_orD (((16 * n) : Nat) : Int) (ibF ([48, 49, 50, 51, 52, 53, 54, 55, 56, 57, 65, 66, 67, 68, 69, 70] : List UInt8) ((c29.toNat : Nat) : Int)) n ((ibF ([48, 49, 50, 51, 52, 53, 54, 55, 56, 57, 65, 66, 67, 68, 69, 70] : List UInt8) ((c29.toNat : Nat) : Int)).toNat) (by omega) (by omega) (by kernel_rfl) (by kernel_rfl) (L_as (L_nil (blkQ_normal (thenQ_normal (W_region (L_addN i 1 (by omega) (by kernel_rfl) (by kernel_rfl) (L_mv (L_nil ?_))))))))))))))))))
            refine thenQ_normal ⟨_, ?_, (i + 1), (16 * n + ((ibF ([48, 49, 50, 51, 52, 53, 54, 55, 56, 57, 65, 66, 67, 68, 69, 70] : List UInt8) ((c29.toNat : Nat) : Int)).toNat)), rfl, hds, by kernel_rfl, by kernel_rfl, by kernel_rfl, by kernel_rfl, hb, hs, ?_, ?_, ?_⟩
            · omega
            · omega
            · rw [hib]; exact pow16s i2 (by omega)
            · rw [hib]; exact hexV_step i3 (by assumption) (by omega)
        · intro h36
          replace h36 : (s).length ≤ i := by omega
          refine L_nil (thenQ_normal (W_seq (W_false (by kernel_rfl) (W_exit (thenQ_exit (thenQ_exit (blkQ_exit (thenQ_normal (W_seq (W_seq (W_region (L_mv (L_cmp .i32 ((n : Nat) : Int) ((1114111 : Nat) : Int) (1114111 < n) rfl (cmpN_gt n 1114111) (by kernel_rfl) (by kernel_rfl) ?_ ?_)))))))))))))
          · intro h37
            replace h37 : 1114111 < n := by omega
            refine L_nil (thenQ_normal (W_true (by kernel_rfl) (W_seq (W_region (L_as (L_as (L_nil (thenQ_normal (W_ret (thenQ_ret ?_))))))))))
            refine end_ret [.tmp 2, .tmp 3] [(.int .i32 0), (.int .i64 40)] rfl hds ⟨by kernel_rfl, by kernel_rfl, trivial⟩ ?_
            have hE : ((0 : Int) = (hexF s).1) ∧ ((40 : Int) = (hexF s).2) := ⟨(by first | (exfalso; omega) | (rw [hexF_len (by omega)]; done) | (rw [hexF_zero (by omega) (by assumption) (by omega)]; done) | (rw [hexF_bad i3 (by assumption) (by omega)]; done) | (rw [hexF_big (hexV_end i3 (by omega)) (by omega)]; done) | (rw [hexF_ok (hexV_end i3 (by omega)) (by omega) (by omega) (by omega) (.inl (by omega))]; done) | (rw [hexF_ok (hexV_end i3 (by omega)) (by omega) (by omega) (by omega) (.inr ⟨_, by assumption, by omega⟩)]; done)), (by first | (exfalso; omega) | (rw [hexF_len (by omega)]; done) | (rw [hexF_zero (by omega) (by assumption) (by omega)]; done) | (rw [hexF_bad i3 (by assumption) (by omega)]; done) | (rw [hexF_big (hexV_end i3 (by omega)) (by omega)]; done) | (rw [hexF_ok (hexV_end i3 (by omega)) (by omega) (by omega) (by omega) (.inl (by omega))]; done) | (rw [hexF_ok (hexV_end i3 (by omega)) (by omega) (by omega) (by omega) (.inr ⟨_, by assumption, by omega⟩)]; done))⟩
            exact ⟨tup2 (congrArg (Value.int .i32) hE.1) (congrArg (Value.int .i64) hE.2), hb⟩
          · intro h38
            replace h38 : n ≤ 1114111 := by omega
            refine L_nil (thenQ_normal (W_false (by kernel_rfl) (W_skip (thenQ_normal (W_seq (W_region (L_mv (L_as (L_as (L_nil (thenQ_normal (W_ret ?_))))))))))))
            refine end_ret [.tmp 2, .tmp 3] [(.int .i32 ((n : Nat) : Int)), (.int .i64 0)] rfl hds ⟨by kernel_rfl, by kernel_rfl, trivial⟩ ?_
            have hE : ((((n : Nat) : Int) : Int) = (hexF s).1) ∧ ((0 : Int) = (hexF s).2) := ⟨(by first | (exfalso; omega) | (rw [hexF_len (by omega)]; done) | (rw [hexF_zero (by omega) (by assumption) (by omega)]; done) | (rw [hexF_bad i3 (by assumption) (by omega)]; done) | (rw [hexF_big (hexV_end i3 (by omega)) (by omega)]; done) | (rw [hexF_ok (hexV_end i3 (by omega)) (by omega) (by omega) (by omega) (.inl (by omega))]; done) | (rw [hexF_ok (hexV_end i3 (by omega)) (by omega) (by omega) (by omega) (.inr ⟨_, by assumption, by omega⟩)]; done)), (by first | (exfalso; omega) | (rw [hexF_len (by omega)]; done) | (rw [hexF_zero (by omega) (by assumption) (by omega)]; done) | (rw [hexF_bad i3 (by assumption) (by omega)]; done) | (rw [hexF_big (hexV_end i3 (by omega)) (by omega)]; done) | (rw [hexF_ok (hexV_end i3 (by omega)) (by omega) (by omega) (by omega) (.inl (by omega))]; done) | (rw [hexF_ok (hexV_end i3 (by omega)) (by omega) (by omega) (by omega) (.inr ⟨_, by assumption, by omega⟩)]; done))⟩
            exact ⟨tup2 (congrArg (Value.int .i32) hE.1) (congrArg (Value.int .i64) hE.2), hb⟩

theorem c_strings_Cut (s : List UInt8) (sep : List UInt8) (w : World) {m_ml : Int} (hml : w.cell? ⟨0, 0, none⟩ = some (.int .i64 m_ml)) (hs : s.length ≤ 1073741824) :
    Calls Try.prog 90 #[(S s), (S sep)] w (Ret fun v w' => v = (.tuple #[(S ((Lib.cut s sep).1)), (S ((Lib.cut s sep).2.1)), (.bool ((Lib.cut s sep).2.2))]) ∧ Below w.heap.size w w') :=
  cut_contract Try.strings_Cut s sep w hml hs

set_option maxHeartbeats 4000000 in
set_option maxRecDepth 100000 in
theorem c_points_Span (s : List UInt8) (w : World) {m_ml : Int} (hml : w.cell? ⟨0, 0, none⟩ = some (.int .i64 m_ml)) (hs : s.length ≤ 1073741824) :
    Calls Try.prog 47 #[(S s)] w (Ret fun v w' => v = (.tuple #[(Value.agg #[(.int .i32 ((spanF s).1)), (.int .i32 ((spanF s).2.1))]), (.int .i64 ((spanF s).2.2))]) ∧ Below w.heap.size w w') := by
  refine enter (args := [(S s)]) Try.func47 rfl (by kernel_rfl : _ = 46) (by kernel_rfl) ?_
  have hb := Below.refl w.heap.size w
  have hs : w.heap.size ≤ w.heap.size := Nat.le_refl _
  refine W_seq (W_region (L_new (fun b => .pointer (some ⟨b, 0, none⟩)) (.cells [(.int .i32 0), (.int .i32 0)].toArray 29 (0, 0)) (by kernel_rfl) (by kernel_rfl) ?_))
  intro b1 w2 hN3
  have g_x2 : w.heap.size ≤ b1 := by rw [hN3.num]; exact hs
  replace hb := hb.trans (hN3.below.mono hs)
  replace hs := Nat.le_trans hs (hN3.below.size)
  have o_x2 := hN3.here
  refine L_as (L_nil (thenQ_normal (W_seq (W_region (L_mv (L_call 90 [(S s), (S ([46, 46] : List UInt8))] (by kernel_rfl) (by kernel_rfl) (c_strings_Cut s ([46, 46] : List UInt8) _ (gcell_below hml hb) (by omega)) ?_))))))
  rintro _ w4 ⟨rfl, hB5⟩
  replace hb := hb.trans (hB5.mono hs)
  replace hs := Nat.le_trans hs (hB5.size)
  replace o_x2 := obj_below o_x2 hB5
  have := cut_len s ([46, 46] : List UInt8)
  refine L_mv (L_run (S ((Lib.cut s ([46, 46] : List UInt8)).1)) (by kernel_rfl) (by kernel_rfl) (L_run (S ((Lib.cut s ([46, 46] : List UInt8)).2.1)) (by kernel_rfl) (by kernel_rfl) (L_run (.bool ((Lib.cut s ([46, 46] : List UInt8)).2.2)) (by kernel_rfl) (by kernel_rfl) (L_as (L_as (L_as (L_nil (thenQ_normal (W_seq (W_region (L_mv (L_call 91 [(S ((Lib.cut s ([46, 46] : List UInt8)).1))] (by kernel_rfl) (by kernel_rfl) (c_points_Hex ((Lib.cut s ([46, 46] : List UInt8)).1) _ (by omega)) ?_))))))))))))
  rintro _ w7 ⟨rfl, hB8⟩
  replace hb := hb.trans (hB8.mono hs)
  replace hs := Nat.le_trans hs (hB8.size)
  replace o_x2 := obj_below o_x2 hB8
  refine L_mv (L_run (.int .i32 ((hexF ((Lib.cut s ([46, 46] : List UInt8)).1)).1)) (by kernel_rfl) (by kernel_rfl) (L_run (.int .i64 ((hexF ((Lib.cut s ([46, 46] : List UInt8)).1)).2)) (by kernel_rfl) (by kernel_rfl) (L_as (L_as (L_nil (thenQ_normal (W_seq (W_seq (W_region (L_mv (L_cmp .i64 ((hexF ((Lib.cut s ([46, 46] : List UInt8)).1)).2) 0 ((hexF ((Lib.cut s ([46, 46] : List UInt8)).1)).2 ≠ 0) rfl (cmp_ne ((hexF ((Lib.cut s ([46, 46] : List UInt8)).1)).2) 0) (by kernel_rfl) (by kernel_rfl) ?_ ?_)))))))))))
  · intro h10
    replace h10 : (hexF ((Lib.cut s ([46, 46] : List UInt8)).1)).2 ≠ 0 := by omega
    refine L_nil (thenQ_normal (W_true (by kernel_rfl) (W_seq (W_region (L_run (Value.agg #[(.int .i32 0), (.int .i32 0)]) (by kernel_rfl) (by kernel_rfl) (L_mv (L_storeA b1 0 [(.int .i32 0), (.int .i32 0)] [(.int .i32 0), (.int .i32 0)] [(.int .i32 0), (.int .i32 0)] 29 (by kernel_rfl) (by kernel_rfl) rfl (by kernel_rfl) o_x2 (by kernel_rfl) rfl ?_)))))))
    intro w11 hW12
    replace hb := hb.trans (hW12.below g_x2)
    replace hs := Nat.le_trans hs (Nat.le_of_eq hW12.size.symm)
    replace o_x2 := hW12.here
    refine L_as (L_nil (thenQ_normal (W_ret (thenQ_ret ?_))))
    refine end_ret [.cell 2 29, .tmp 3] [(Value.agg #[(.int .i32 0), (.int .i32 0)]), (.int .i64 ((hexF ((Lib.cut s ([46, 46] : List UInt8)).1)).2))] rfl rfl ⟨⟨⟨b1, 0, none⟩, by kernel_rfl, load_agg [(.int .i32 0), (.int .i32 0)] (by kernel_rfl) (by kernel_rfl) (cells_obj o_x2)⟩, by kernel_rfl, trivial⟩ ?_
    have hE : ((Value.agg #[(.int .i32 0), (.int .i32 0)]) = (Value.agg #[(.int .i32 ((spanF s).1)), (.int .i32 ((spanF s).2.1))])) ∧ (((hexF ((Lib.cut s ([46, 46] : List UInt8)).1)).2 : Int) = (spanF s).2.2) := ⟨(by first | (rw [span_cut, if_pos (by omega)]; done) | (rw [span_cut, if_neg (by omega), if_pos (nt (by assumption))]; done) | (rw [span_cut, if_neg (by omega), if_neg (nf (by assumption)), if_pos (by omega)]; done) | (rw [span_cut, if_neg (by omega), if_neg (nf (by assumption)), if_neg (by omega), if_pos (by omega)]; done) | (rw [span_cut, if_neg (by omega), if_neg (nf (by assumption)), if_neg (by omega), if_neg (by omega)]; done)), (by first | (rw [span_cut, if_pos (by omega)]; done) | (rw [span_cut, if_neg (by omega), if_pos (nt (by assumption))]; done) | (rw [span_cut, if_neg (by omega), if_neg (nf (by assumption)), if_pos (by omega)]; done) | (rw [span_cut, if_neg (by omega), if_neg (nf (by assumption)), if_neg (by omega), if_pos (by omega)]; done) | (rw [span_cut, if_neg (by omega), if_neg (nf (by assumption)), if_neg (by omega), if_neg (by omega)]; done))⟩
    exact ⟨tup2 (hE.1) (congrArg (Value.int .i64) hE.2), hb⟩
  · intro h13
    replace h13 : (hexF ((Lib.cut s ([46, 46] : List UInt8)).1)).2 = 0 := by omega
    refine L_nil (thenQ_normal (W_false (by kernel_rfl) (W_skip (thenQ_normal (W_seq (W_seq (W_region (L_mv (L_not ((Lib.cut s ([46, 46] : List UInt8)).2.2) (by kernel_rfl) (L_nil (thenQ_normal ?_)))))))))))
    rcases Bool.eq_false_or_eq_true (!((Lib.cut s ([46, 46] : List UInt8)).2.2)) with hc14 | hc14
    · skip
      refine W_ifT hc14 (by kernel_rfl) (W_seq (W_region (L_mv (L_mv (L_run (Value.agg #[(.int .i32 ((hexF ((Lib.cut s ([46, 46] : List UInt8)).1)).1)), (.int .i32 ((hexF ((Lib.cut s ([46, 46] : List UInt8)).1)).1))]) (by kernel_rfl) (by kernel_rfl) (L_storeA b1 0 [(.int .i32 ((hexF ((Lib.cut s ([46, 46] : List UInt8)).1)).1)), (.int .i32 ((hexF ((Lib.cut s ([46, 46] : List UInt8)).1)).1))] [(.int .i32 0), (.int .i32 0)] [(.int .i32 ((hexF ((Lib.cut s ([46, 46] : List UInt8)).1)).1)), (.int .i32 ((hexF ((Lib.cut s ([46, 46] : List UInt8)).1)).1))] 29 (by kernel_rfl) (by kernel_rfl) rfl (by kernel_rfl) o_x2 (by kernel_rfl) rfl ?_))))))
      intro w15 hW16
      replace hb := hb.trans (hW16.below g_x2)
      replace hs := Nat.le_trans hs (Nat.le_of_eq hW16.size.symm)
      replace o_x2 := hW16.here
      refine L_as (L_nil (thenQ_normal (W_ret (thenQ_ret ?_))))
      refine end_ret [.cell 2 29, .tmp 3] [(Value.agg #[(.int .i32 ((hexF ((Lib.cut s ([46, 46] : List UInt8)).1)).1)), (.int .i32 ((hexF ((Lib.cut s ([46, 46] : List UInt8)).1)).1))]), (.int .i64 0)] rfl rfl ⟨⟨⟨b1, 0, none⟩, by kernel_rfl, load_agg [(.int .i32 ((hexF ((Lib.cut s ([46, 46] : List UInt8)).1)).1)), (.int .i32 ((hexF ((Lib.cut s ([46, 46] : List UInt8)).1)).1))] (by kernel_rfl) (by kernel_rfl) (cells_obj o_x2)⟩, by kernel_rfl, trivial⟩ ?_
      have hE : ((Value.agg #[(.int .i32 ((hexF ((Lib.cut s ([46, 46] : List UInt8)).1)).1)), (.int .i32 ((hexF ((Lib.cut s ([46, 46] : List UInt8)).1)).1))]) = (Value.agg #[(.int .i32 ((spanF s).1)), (.int .i32 ((spanF s).2.1))])) ∧ ((0 : Int) = (spanF s).2.2) := ⟨(by first | (rw [span_cut, if_pos (by omega)]; done) | (rw [span_cut, if_neg (by omega), if_pos (nt (by assumption))]; done) | (rw [span_cut, if_neg (by omega), if_neg (nf (by assumption)), if_pos (by omega)]; done) | (rw [span_cut, if_neg (by omega), if_neg (nf (by assumption)), if_neg (by omega), if_pos (by omega)]; done) | (rw [span_cut, if_neg (by omega), if_neg (nf (by assumption)), if_neg (by omega), if_neg (by omega)]; done)), (by first | (rw [span_cut, if_pos (by omega)]; done) | (rw [span_cut, if_neg (by omega), if_pos (nt (by assumption))]; done) | (rw [span_cut, if_neg (by omega), if_neg (nf (by assumption)), if_pos (by omega)]; done) | (rw [span_cut, if_neg (by omega), if_neg (nf (by assumption)), if_neg (by omega), if_pos (by omega)]; done) | (rw [span_cut, if_neg (by omega), if_neg (nf (by assumption)), if_neg (by omega), if_neg (by omega)]; done))⟩
      exact ⟨tup2 (hE.1) (congrArg (Value.int .i64) hE.2), hb⟩
    · skip
      refine W_ifF hc14 (by kernel_rfl) (W_skip (thenQ_normal (W_seq (W_region (L_mv (L_call 91 [(S ((Lib.cut s ([46, 46] : List UInt8)).2.1))] (by kernel_rfl) (by kernel_rfl) (c_points_Hex ((Lib.cut s ([46, 46] : List UInt8)).2.1) _ (by omega)) ?_))))))
      rintro _ w17 ⟨rfl, hB18⟩
      replace hb := hb.trans (hB18.mono hs)
      replace hs := Nat.le_trans hs (hB18.size)
      replace o_x2 := obj_below o_x2 hB18
      refine L_mv (L_run (.int .i32 ((hexF ((Lib.cut s ([46, 46] : List UInt8)).2.1)).1)) (by kernel_rfl) (by kernel_rfl) (L_run (.int .i64 ((hexF ((Lib.cut s ([46, 46] : List UInt8)).2.1)).2)) (by kernel_rfl) (by kernel_rfl) (L_as (L_as (L_nil (thenQ_normal (W_seq (W_seq (W_region (L_mv (L_cmp .i64 ((hexF ((Lib.cut s ([46, 46] : List UInt8)).2.1)).2) 0 ((hexF ((Lib.cut s ([46, 46] : List UInt8)).2.1)).2 ≠ 0) rfl (cmp_ne ((hexF ((Lib.cut s ([46, 46] : List UInt8)).2.1)).2) 0) (by kernel_rfl) (by kernel_rfl) ?_ ?_)))))))))))
      · intro h20
        replace h20 : (hexF ((Lib.cut s ([46, 46] : List UInt8)).2.1)).2 ≠ 0 := by omega
        refine L_nil (thenQ_normal (W_true (by kernel_rfl) (W_seq (W_region (L_run (Value.agg #[(.int .i32 0), (.int .i32 0)]) (by kernel_rfl) (by kernel_rfl) (L_mv (L_storeA b1 0 [(.int .i32 0), (.int .i32 0)] [(.int .i32 0), (.int .i32 0)] [(.int .i32 0), (.int .i32 0)] 29 (by kernel_rfl) (by kernel_rfl) rfl (by kernel_rfl) o_x2 (by kernel_rfl) rfl ?_)))))))
        intro w21 hW22
        replace hb := hb.trans (hW22.below g_x2)
        replace hs := Nat.le_trans hs (Nat.le_of_eq hW22.size.symm)
        replace o_x2 := hW22.here
        refine L_as (L_nil (thenQ_normal (W_ret (thenQ_ret ?_))))
        refine end_ret [.cell 2 29, .tmp 3] [(Value.agg #[(.int .i32 0), (.int .i32 0)]), (.int .i64 ((hexF ((Lib.cut s ([46, 46] : List UInt8)).2.1)).2))] rfl rfl ⟨⟨⟨b1, 0, none⟩, by kernel_rfl, load_agg [(.int .i32 0), (.int .i32 0)] (by kernel_rfl) (by kernel_rfl) (cells_obj o_x2)⟩, by kernel_rfl, trivial⟩ ?_
        have hE : ((Value.agg #[(.int .i32 0), (.int .i32 0)]) = (Value.agg #[(.int .i32 ((spanF s).1)), (.int .i32 ((spanF s).2.1))])) ∧ (((hexF ((Lib.cut s ([46, 46] : List UInt8)).2.1)).2 : Int) = (spanF s).2.2) := ⟨(by first | (rw [span_cut, if_pos (by omega)]; done) | (rw [span_cut, if_neg (by omega), if_pos (nt (by assumption))]; done) | (rw [span_cut, if_neg (by omega), if_neg (nf (by assumption)), if_pos (by omega)]; done) | (rw [span_cut, if_neg (by omega), if_neg (nf (by assumption)), if_neg (by omega), if_pos (by omega)]; done) | (rw [span_cut, if_neg (by omega), if_neg (nf (by assumption)), if_neg (by omega), if_neg (by omega)]; done)), (by first | (rw [span_cut, if_pos (by omega)]; done) | (rw [span_cut, if_neg (by omega), if_pos (nt (by assumption))]; done) | (rw [span_cut, if_neg (by omega), if_neg (nf (by assumption)), if_pos (by omega)]; done) | (rw [span_cut, if_neg (by omega), if_neg (nf (by assumption)), if_neg (by omega), if_pos (by omega)]; done) | (rw [span_cut, if_neg (by omega), if_neg (nf (by assumption)), if_neg (by omega), if_neg (by omega)]; done))⟩
        exact ⟨tup2 (hE.1) (congrArg (Value.int .i64) hE.2), hb⟩
      · intro h23
        replace h23 : (hexF ((Lib.cut s ([46, 46] : List UInt8)).2.1)).2 = 0 := by omega
        refine L_nil (thenQ_normal (W_false (by kernel_rfl) (W_skip (thenQ_normal (W_seq (W_seq (W_region (L_mv (L_mv (L_cmp .i32 ((hexF ((Lib.cut s ([46, 46] : List UInt8)).1)).1) ((hexF ((Lib.cut s ([46, 46] : List UInt8)).2.1)).1) ((hexF ((Lib.cut s ([46, 46] : List UInt8)).2.1)).1 < (hexF ((Lib.cut s ([46, 46] : List UInt8)).1)).1) rfl (cmp_gt ((hexF ((Lib.cut s ([46, 46] : List UInt8)).1)).1) ((hexF ((Lib.cut s ([46, 46] : List UInt8)).2.1)).1)) (by kernel_rfl) (by kernel_rfl) ?_ ?_))))))))))
        · intro h24
          replace h24 : (hexF ((Lib.cut s ([46, 46] : List UInt8)).2.1)).1 < (hexF ((Lib.cut s ([46, 46] : List UInt8)).1)).1 := by omega
          refine L_nil (thenQ_normal (W_true (by kernel_rfl) (W_seq (W_region (L_run (Value.agg #[(.int .i32 0), (.int .i32 0)]) (by kernel_rfl) (by kernel_rfl) (L_storeA b1 0 [(.int .i32 0), (.int .i32 0)] [(.int .i32 0), (.int .i32 0)] [(.int .i32 0), (.int .i32 0)] 29 (by kernel_rfl) (by kernel_rfl) rfl (by kernel_rfl) o_x2 (by kernel_rfl) rfl ?_))))))
          intro w25 hW26
          replace hb := hb.trans (hW26.below g_x2)
          replace hs := Nat.le_trans hs (Nat.le_of_eq hW26.size.symm)
          replace o_x2 := hW26.here
          refine L_as (L_nil (thenQ_normal (W_ret (thenQ_ret ?_))))
          refine end_ret [.cell 2 29, .tmp 3] [(Value.agg #[(.int .i32 0), (.int .i32 0)]), (.int .i64 41)] rfl rfl ⟨⟨⟨b1, 0, none⟩, by kernel_rfl, load_agg [(.int .i32 0), (.int .i32 0)] (by kernel_rfl) (by kernel_rfl) (cells_obj o_x2)⟩, by kernel_rfl, trivial⟩ ?_
          have hE : ((Value.agg #[(.int .i32 0), (.int .i32 0)]) = (Value.agg #[(.int .i32 ((spanF s).1)), (.int .i32 ((spanF s).2.1))])) ∧ ((41 : Int) = (spanF s).2.2) := ⟨(by first | (rw [span_cut, if_pos (by omega)]; done) | (rw [span_cut, if_neg (by omega), if_pos (nt (by assumption))]; done) | (rw [span_cut, if_neg (by omega), if_neg (nf (by assumption)), if_pos (by omega)]; done) | (rw [span_cut, if_neg (by omega), if_neg (nf (by assumption)), if_neg (by omega), if_pos (by omega)]; done) | (rw [span_cut, if_neg (by omega), if_neg (nf (by assumption)), if_neg (by omega), if_neg (by omega)]; done)), (by first | (rw [span_cut, if_pos (by omega)]; done) | (rw [span_cut, if_neg (by omega), if_pos (nt (by assumption))]; done) | (rw [span_cut, if_neg (by omega), if_neg (nf (by assumption)), if_pos (by omega)]; done) | (rw [span_cut, if_neg (by omega), if_neg (nf (by assumption)), if_neg (by omega), if_pos (by omega)]; done) | (rw [span_cut, if_neg (by omega), if_neg (nf (by assumption)), if_neg (by omega), if_neg (by omega)]; done))⟩
          exact ⟨tup2 (hE.1) (congrArg (Value.int .i64) hE.2), hb⟩
        · intro h27
          replace h27 : (hexF ((Lib.cut s ([46, 46] : List UInt8)).1)).1 ≤ (hexF ((Lib.cut s ([46, 46] : List UInt8)).2.1)).1 := by omega
          refine L_nil (thenQ_normal (W_false (by kernel_rfl) (W_skip (thenQ_normal (W_seq (W_region (L_mv (L_mv (L_run (Value.agg #[(.int .i32 ((hexF ((Lib.cut s ([46, 46] : List UInt8)).1)).1)), (.int .i32 ((hexF ((Lib.cut s ([46, 46] : List UInt8)).2.1)).1))]) (by kernel_rfl) (by kernel_rfl) (L_storeA b1 0 [(.int .i32 ((hexF ((Lib.cut s ([46, 46] : List UInt8)).1)).1)), (.int .i32 ((hexF ((Lib.cut s ([46, 46] : List UInt8)).2.1)).1))] [(.int .i32 0), (.int .i32 0)] [(.int .i32 ((hexF ((Lib.cut s ([46, 46] : List UInt8)).1)).1)), (.int .i32 ((hexF ((Lib.cut s ([46, 46] : List UInt8)).2.1)).1))] 29 (by kernel_rfl) (by kernel_rfl) rfl (by kernel_rfl) o_x2 (by kernel_rfl) rfl ?_))))))))))
          intro w28 hW29
          replace hb := hb.trans (hW29.below g_x2)
          replace hs := Nat.le_trans hs (Nat.le_of_eq hW29.size.symm)
          replace o_x2 := hW29.here
          refine L_as (L_nil (thenQ_normal (W_ret ?_)))
          refine end_ret [.cell 2 29, .tmp 3] [(Value.agg #[(.int .i32 ((hexF ((Lib.cut s ([46, 46] : List UInt8)).1)).1)), (.int .i32 ((hexF ((Lib.cut s ([46, 46] : List UInt8)).2.1)).1))]), (.int .i64 0)] rfl rfl ⟨⟨⟨b1, 0, none⟩, by kernel_rfl, load_agg [(.int .i32 ((hexF ((Lib.cut s ([46, 46] : List UInt8)).1)).1)), (.int .i32 ((hexF ((Lib.cut s ([46, 46] : List UInt8)).2.1)).1))] (by kernel_rfl) (by kernel_rfl) (cells_obj o_x2)⟩, by kernel_rfl, trivial⟩ ?_
          have hE : ((Value.agg #[(.int .i32 ((hexF ((Lib.cut s ([46, 46] : List UInt8)).1)).1)), (.int .i32 ((hexF ((Lib.cut s ([46, 46] : List UInt8)).2.1)).1))]) = (Value.agg #[(.int .i32 ((spanF s).1)), (.int .i32 ((spanF s).2.1))])) ∧ ((0 : Int) = (spanF s).2.2) := ⟨(by first | (rw [span_cut, if_pos (by omega)]; done) | (rw [span_cut, if_neg (by omega), if_pos (nt (by assumption))]; done) | (rw [span_cut, if_neg (by omega), if_neg (nf (by assumption)), if_pos (by omega)]; done) | (rw [span_cut, if_neg (by omega), if_neg (nf (by assumption)), if_neg (by omega), if_pos (by omega)]; done) | (rw [span_cut, if_neg (by omega), if_neg (nf (by assumption)), if_neg (by omega), if_neg (by omega)]; done)), (by first | (rw [span_cut, if_pos (by omega)]; done) | (rw [span_cut, if_neg (by omega), if_pos (nt (by assumption))]; done) | (rw [span_cut, if_neg (by omega), if_neg (nf (by assumption)), if_pos (by omega)]; done) | (rw [span_cut, if_neg (by omega), if_neg (nf (by assumption)), if_neg (by omega), if_pos (by omega)]; done) | (rw [span_cut, if_neg (by omega), if_neg (nf (by assumption)), if_neg (by omega), if_neg (by omega)]; done))⟩
          exact ⟨tup2 (hE.1) (congrArg (Value.int .i64) hE.2), hb⟩

end Go.Proofs.Ythjgnnfonofgkaa
