/- Walks, written by my program walk.py out of the specification phex.py: each theorem says what one function returns and that it leaves memory as it was. -/
import Derived.Test.YtmjkegpbbhafjaaPHex
import Derived.Test.YtmjkegpbbhafjaaFKr
import Derived.Test.YtmjkegpbbhafjaaProg
import Derived.Tactics2
namespace Go.Proofs.Ytmjkegpbbhafjaa
open Go Go.RowKit Go.FK
set_option linter.unusedVariables false

def laysRev_ren : Go.Shelf.Ren := ⟨fun | 35 => 84 | n => n, fun | 22 => 143 | 23 => 5 | n => n, fun | n => n⟩
theorem laysRev : Go.Proofs.SlLaysE.n35 Try.prog laysRev_ren := {
  mixed := by kernel_rfl
  f35 := ⟨Try.f84.name, by kernel_rfl, Try.func84.trans (congrArg some (by kernel_rfl))⟩
  t0 := Try.underlying0
  a0 := Try.isAgg0
  z0 := Try.sizeOf0
  v0 := Try.zeroValue0
  t3 := Try.underlying3
  a3 := Try.isAgg3
  z3 := Try.sizeOf3
  v3 := Try.zeroValue3
  t4 := Try.underlying4
  a4 := Try.isAgg4
  z4 := Try.sizeOf4
  v4 := Try.zeroValue4
  t22 := Try.underlying143
  a22 := Try.isAgg143
  z22 := Try.sizeOf143
  v22 := Try.zeroValue143
  a23 := Try.isAgg5
  z23 := Try.sizeOf5 }
theorem el143 : Elem Try.prog 143 5 1 1 := ⟨Try.underlying143, by kernel_rfl, rfl⟩
theorem c_strings_IndexByte (s : List UInt8) (c : Int) (w : World) :
    Calls Try.prog 82 #[(S s), (.int .u8 c)] w (Ret fun v w' => v = (.int .i64 (ibF s c)) ∧ Below w.heap.size w w') :=
  indexByte_contract Try.strings_IndexByte s c w

set_option maxHeartbeats 4000000 in
set_option maxRecDepth 100000 in
theorem c_points_May (lo : Int) (hi : Int) (w : World) :
    Calls Try.prog 35 #[(Value.agg #[(.int .i32 lo), (.int .i32 hi)])] w (Ret fun v w' => v = (.bool (mayF lo hi)) ∧ Below w.heap.size w w') := by
  refine enter (args := [(Value.agg #[(.int .i32 lo), (.int .i32 hi)])]) Try.func35 rfl (by kernel_rfl : _ = 18) (by kernel_rfl) ?_
  have hb := Below.refl w.heap.size w
  have hs : w.heap.size ≤ w.heap.size := Nat.le_refl _
  refine W_seq (W_region (L_new (fun b => .pointer (some ⟨b, 0, none⟩)) (.cells [(.int .i32 lo), (.int .i32 hi)].toArray 29 (0, 0)) (by kernel_rfl) (by kernel_rfl) ?_))
  intro b1 w2 hN3
  have g_x1 : w.heap.size ≤ b1 := by rw [hN3.num]; exact hs
  replace hb := hb.trans (hN3.below.mono hs)
  replace hs := Nat.le_trans hs (hN3.below.size)
  have o_x1 := hN3.here
  refine L_as (L_nil (thenQ_normal (W_seq (W_region (L_run (.pointer (some ⟨b1, 0, none⟩)) (by kernel_rfl) (by kernel_rfl) (L_load b1 0 (.int .i32 lo) (by kernel_rfl) (by kernel_rfl) (cell_obj o_x1 rfl) (L_cmp .i32 lo 0 (0 ≤ lo) rfl (cmp_ge lo 0) (by kernel_rfl) (by kernel_rfl) ?_ ?_)))))))
  · intro h4
    replace h4 : 0 ≤ lo := by omega
    refine L_mv (L_want (by kernel_rfl) (L_run (.pointer (some ⟨b1, 0, none⟩)) (by kernel_rfl) (by kernel_rfl) (L_want (by kernel_rfl) (L_load b1 0 (.int .i32 lo) (by kernel_rfl) (by kernel_rfl) (cell_obj o_x1 rfl) (L_want (by kernel_rfl) (L_run (.pointer (some ⟨b1, 1, none⟩)) (by kernel_rfl) (by kernel_rfl) (L_want (by kernel_rfl) (L_load b1 1 (.int .i32 hi) (by kernel_rfl) (by kernel_rfl) (cell_obj o_x1 rfl) (L_want (by kernel_rfl) (L_cmp .i32 lo hi (lo ≤ hi) rfl (cmp_le lo hi) (by kernel_rfl) (by kernel_rfl) ?_ ?_))))))))))
    · intro h5
      replace h5 : lo ≤ hi := by omega
      refine L_pickT (by kernel_rfl) (L_mv (L_want (by kernel_rfl) (L_run (.pointer (some ⟨b1, 1, none⟩)) (by kernel_rfl) (by kernel_rfl) (L_want (by kernel_rfl) (L_load b1 1 (.int .i32 hi) (by kernel_rfl) (by kernel_rfl) (cell_obj o_x1 rfl) (L_want (by kernel_rfl) (L_cmp .i32 hi 1114111 (hi ≤ 1114111) rfl (cmp_le hi 1114111) (by kernel_rfl) (by kernel_rfl) ?_ ?_)))))))
      · intro h6
        replace h6 : hi ≤ 1114111 := by omega
        refine L_pickT (by kernel_rfl) (L_as (L_nil (thenQ_normal (W_ret ?_))))
        refine end_ret [.tmp 2] [(.bool true)] rfl rfl ⟨by kernel_rfl, trivial⟩ ?_
        have e0 : true = mayF lo hi := by first | exact (mayF_true (by omega) (by omega) (by omega)).symm | exact (mayF_false (by omega)).symm
        exact ⟨congrArg Value.bool e0, hb⟩
      · intro h7
        replace h7 : 1114111 < hi := by omega
        refine L_pickT (by kernel_rfl) (L_as (L_nil (thenQ_normal (W_ret ?_))))
        refine end_ret [.tmp 2] [(.bool false)] rfl rfl ⟨by kernel_rfl, trivial⟩ ?_
        have e0 : false = mayF lo hi := by first | exact (mayF_true (by omega) (by omega) (by omega)).symm | exact (mayF_false (by omega)).symm
        exact ⟨congrArg Value.bool e0, hb⟩
    · intro h8
      replace h8 : hi < lo := by omega
      refine L_pickT (by kernel_rfl) (L_mv (L_skip (by kernel_rfl) (L_skip (by kernel_rfl) (L_skip (by kernel_rfl) (L_pickF (by kernel_rfl) (L_as (L_nil (thenQ_normal (W_ret ?_)))))))))
      refine end_ret [.tmp 2] [(.bool false)] rfl rfl ⟨by kernel_rfl, trivial⟩ ?_
      have e0 : false = mayF lo hi := by first | exact (mayF_true (by omega) (by omega) (by omega)).symm | exact (mayF_false (by omega)).symm
      exact ⟨congrArg Value.bool e0, hb⟩
  · intro h9
    replace h9 : lo < 0 := by omega
    refine L_mv (L_skip (by kernel_rfl) (L_skip (by kernel_rfl) (L_skip (by kernel_rfl) (L_skip (by kernel_rfl) (L_skip (by kernel_rfl) (L_pickF (by kernel_rfl) (L_mv (L_skip (by kernel_rfl) (L_skip (by kernel_rfl) (L_skip (by kernel_rfl) (L_pickF (by kernel_rfl) (L_as (L_nil (thenQ_normal (W_ret ?_)))))))))))))))
    refine end_ret [.tmp 2] [(.bool false)] rfl rfl ⟨by kernel_rfl, trivial⟩ ?_
    have e0 : false = mayF lo hi := by first | exact (mayF_true (by omega) (by omega) (by omega)).symm | exact (mayF_false (by omega)).symm
    exact ⟨congrArg Value.bool e0, hb⟩

set_option maxHeartbeats 4000000 in
set_option maxRecDepth 100000 in
theorem c_furrowref04_May (lo : Int) (hi : Int) (w : World) :
    Calls Try.prog 36 #[(Value.agg #[(.int .i32 lo), (.int .i32 hi)])] w (Ret fun v w' => v = (.bool (mayF lo hi)) ∧ Below w.heap.size w w') := by
  refine enter (args := [(Value.agg #[(.int .i32 lo), (.int .i32 hi)])]) Try.func36 rfl (by kernel_rfl : _ = 18) (by kernel_rfl) ?_
  have hb := Below.refl w.heap.size w
  have hs : w.heap.size ≤ w.heap.size := Nat.le_refl _
  refine W_seq (W_region (L_new (fun b => .pointer (some ⟨b, 0, none⟩)) (.cells [(.int .i32 lo), (.int .i32 hi)].toArray 29 (0, 0)) (by kernel_rfl) (by kernel_rfl) ?_))
  intro b1 w2 hN3
  have g_x1 : w.heap.size ≤ b1 := by rw [hN3.num]; exact hs
  replace hb := hb.trans (hN3.below.mono hs)
  replace hs := Nat.le_trans hs (hN3.below.size)
  have o_x1 := hN3.here
  refine L_as (L_nil (thenQ_normal (W_seq (W_region (L_run (.pointer (some ⟨b1, 0, none⟩)) (by kernel_rfl) (by kernel_rfl) (L_load b1 0 (.int .i32 lo) (by kernel_rfl) (by kernel_rfl) (cell_obj o_x1 rfl) (L_cmp .i32 lo 0 (0 ≤ lo) rfl (cmp_ge lo 0) (by kernel_rfl) (by kernel_rfl) ?_ ?_)))))))
  · intro h4
    replace h4 : 0 ≤ lo := by omega
    refine L_mv (L_want (by kernel_rfl) (L_run (.pointer (some ⟨b1, 1, none⟩)) (by kernel_rfl) (by kernel_rfl) (L_want (by kernel_rfl) (L_load b1 1 (.int .i32 hi) (by kernel_rfl) (by kernel_rfl) (cell_obj o_x1 rfl) (L_want (by kernel_rfl) (L_cmp .i32 hi 1114111 (hi ≤ 1114111) rfl (cmp_le hi 1114111) (by kernel_rfl) (by kernel_rfl) ?_ ?_))))))
    · intro h5
      replace h5 : hi ≤ 1114111 := by omega
      refine L_pickT (by kernel_rfl) (L_mv (L_want (by kernel_rfl) (L_run (.pointer (some ⟨b1, 0, none⟩)) (by kernel_rfl) (by kernel_rfl) (L_want (by kernel_rfl) (L_load b1 0 (.int .i32 lo) (by kernel_rfl) (by kernel_rfl) (cell_obj o_x1 rfl) (L_want (by kernel_rfl) (L_run (.pointer (some ⟨b1, 1, none⟩)) (by kernel_rfl) (by kernel_rfl) (L_want (by kernel_rfl) (L_load b1 1 (.int .i32 hi) (by kernel_rfl) (by kernel_rfl) (cell_obj o_x1 rfl) (L_want (by kernel_rfl) (L_cmp .i32 lo hi (lo ≤ hi) rfl (cmp_le lo hi) (by kernel_rfl) (by kernel_rfl) ?_ ?_)))))))))))
      · intro h6
        replace h6 : lo ≤ hi := by omega
        refine L_pickT (by kernel_rfl) (L_as (L_nil (thenQ_normal (W_ret ?_))))
        refine end_ret [.tmp 2] [(.bool true)] rfl rfl ⟨by kernel_rfl, trivial⟩ ?_
        have e0 : true = mayF lo hi := by first | exact (mayF_true (by omega) (by omega) (by omega)).symm | exact (mayF_false (by omega)).symm
        exact ⟨congrArg Value.bool e0, hb⟩
      · intro h7
        replace h7 : hi < lo := by omega
        refine L_pickT (by kernel_rfl) (L_as (L_nil (thenQ_normal (W_ret ?_))))
        refine end_ret [.tmp 2] [(.bool false)] rfl rfl ⟨by kernel_rfl, trivial⟩ ?_
        have e0 : false = mayF lo hi := by first | exact (mayF_true (by omega) (by omega) (by omega)).symm | exact (mayF_false (by omega)).symm
        exact ⟨congrArg Value.bool e0, hb⟩
    · intro h8
      replace h8 : 1114111 < hi := by omega
      refine L_pickT (by kernel_rfl) (L_mv (L_skip (by kernel_rfl) (L_skip (by kernel_rfl) (L_skip (by kernel_rfl) (L_skip (by kernel_rfl) (L_skip (by kernel_rfl) (L_pickF (by kernel_rfl) (L_as (L_nil (thenQ_normal (W_ret ?_)))))))))))
      refine end_ret [.tmp 2] [(.bool false)] rfl rfl ⟨by kernel_rfl, trivial⟩ ?_
      have e0 : false = mayF lo hi := by first | exact (mayF_true (by omega) (by omega) (by omega)).symm | exact (mayF_false (by omega)).symm
      exact ⟨congrArg Value.bool e0, hb⟩
  · intro h9
    replace h9 : lo < 0 := by omega
    refine L_mv (L_skip (by kernel_rfl) (L_skip (by kernel_rfl) (L_skip (by kernel_rfl) (L_pickF (by kernel_rfl) (L_mv (L_skip (by kernel_rfl) (L_skip (by kernel_rfl) (L_skip (by kernel_rfl) (L_skip (by kernel_rfl) (L_skip (by kernel_rfl) (L_pickF (by kernel_rfl) (L_as (L_nil (thenQ_normal (W_ret ?_)))))))))))))))
    refine end_ret [.tmp 2] [(.bool false)] rfl rfl ⟨by kernel_rfl, trivial⟩ ?_
    have e0 : false = mayF lo hi := by first | exact (mayF_true (by omega) (by omega) (by omega)).symm | exact (mayF_false (by omega)).symm
    exact ⟨congrArg Value.bool e0, hb⟩

set_option maxHeartbeats 4000000 in
set_option maxRecDepth 100000 in
theorem c_points_Hex (s : List UInt8) (w : World) (hs : s.length ≤ 1073741824) :
    Calls Try.prog 31 #[(S s)] w (Ret fun v w' => v = (.tuple #[(.int .i32 ((hexF s).1)), (.int .i64 ((hexF s).2))]) ∧ Below w.heap.size w w') := by
  refine enter (args := [(S s)]) Try.func31 rfl (by kernel_rfl : _ = 45) (by kernel_rfl) ?_
  have hb := Below.refl w.heap.size w
  have hs : w.heap.size ≤ w.heap.size := Nat.le_refl _
  refine W_seq (W_region (L_as (L_as (L_nil (thenQ_normal (W_seq (W_seq (W_region (L_mv (L_slen 9 s rfl Try.underlying9 (by kernel_rfl) (L_cmp .i64 (((s).length : Nat) : Int) ((4 : Nat) : Int) ((s).length < 4) rfl (cmpN_lt ((s).length) 4) (by kernel_rfl) (by kernel_rfl) ?_ ?_)))))))))))
  · intro h1
    replace h1 : (s).length < 4 := by omega
    refine L_mv (L_skip (by kernel_rfl) (L_skip (by kernel_rfl) (L_skip (by kernel_rfl) (L_pickT (by kernel_rfl) (L_mv (L_skip (by kernel_rfl) (L_skip (by kernel_rfl) (L_skip (by kernel_rfl) (L_skip (by kernel_rfl) (L_skip (by kernel_rfl) (L_skip (by kernel_rfl) (L_skip (by kernel_rfl) (L_skip (by kernel_rfl) (L_pickT (by kernel_rfl) (L_nil (thenQ_normal (W_true (by kernel_rfl) (W_seq (W_region (L_as (L_as (L_nil (thenQ_normal (W_ret (thenQ_ret ?_)))))))))))))))))))))))))
    refine end_ret [.tmp 2, .tmp 3] [(.int .i32 0), (.int .i64 40)] rfl rfl ⟨by kernel_rfl, by kernel_rfl, trivial⟩ ?_
    have hE : ((0 : Int) = (hexF s).1) ∧ ((40 : Int) = (hexF s).2) := ⟨(by first | (exfalso; omega) | (rw [hexF_len (by omega)]; done) | (rw [hexF_zero (by omega) (by assumption) (by omega)]; done) | (rw [hexF_bad i3 (by assumption) (by omega)]; done) | (rw [hexF_big (hexV_end i3 (by omega)) (by omega)]; done) | (rw [hexF_ok (hexV_end i3 (by omega)) (by omega) (by omega) (by omega) (.inl (by omega))]; done) | (rw [hexF_ok (hexV_end i3 (by omega)) (by omega) (by omega) (by omega) (.inr ⟨_, by assumption, by omega⟩)]; done)), (by first | (exfalso; omega) | (rw [hexF_len (by omega)]; done) | (rw [hexF_zero (by omega) (by assumption) (by omega)]; done) | (rw [hexF_bad i3 (by assumption) (by omega)]; done) | (rw [hexF_big (hexV_end i3 (by omega)) (by omega)]; done) | (rw [hexF_ok (hexV_end i3 (by omega)) (by omega) (by omega) (by omega) (.inl (by omega))]; done) | (rw [hexF_ok (hexV_end i3 (by omega)) (by omega) (by omega) (by omega) (.inr ⟨_, by assumption, by omega⟩)]; done))⟩
    exact ⟨tup2 (congrArg (Value.int .i32) hE.1) (congrArg (Value.int .i64) hE.2), hb⟩
  · intro h2
    replace h2 : 4 ≤ (s).length := by omega
    refine L_mv (L_want (by kernel_rfl) (L_mv (L_want (by kernel_rfl) (L_slen 9 s rfl Try.underlying9 (by kernel_rfl) (L_want (by kernel_rfl) (L_cmp .i64 (((s).length : Nat) : Int) ((6 : Nat) : Int) (6 < (s).length) rfl (cmpN_gt ((s).length) 6) (by kernel_rfl) (by kernel_rfl) ?_ ?_))))))
    · intro h3
      replace h3 : 6 < (s).length := by omega
      refine L_pickF (by kernel_rfl) (L_mv (L_skip (by kernel_rfl) (L_skip (by kernel_rfl) (L_skip (by kernel_rfl) (L_skip (by kernel_rfl) (L_skip (by kernel_rfl) (L_skip (by kernel_rfl) (L_skip (by kernel_rfl) (L_skip (by kernel_rfl) (L_pickT (by kernel_rfl) (L_nil (thenQ_normal (W_true (by kernel_rfl) (W_seq (W_region (L_as (L_as (L_nil (thenQ_normal (W_ret (thenQ_ret ?_)))))))))))))))))))))
      refine end_ret [.tmp 2, .tmp 3] [(.int .i32 0), (.int .i64 40)] rfl rfl ⟨by kernel_rfl, by kernel_rfl, trivial⟩ ?_
      have hE : ((0 : Int) = (hexF s).1) ∧ ((40 : Int) = (hexF s).2) := ⟨(by first | (exfalso; omega) | (rw [hexF_len (by omega)]; done) | (rw [hexF_zero (by omega) (by assumption) (by omega)]; done) | (rw [hexF_bad i3 (by assumption) (by omega)]; done) | (rw [hexF_big (hexV_end i3 (by omega)) (by omega)]; done) | (rw [hexF_ok (hexV_end i3 (by omega)) (by omega) (by omega) (by omega) (.inl (by omega))]; done) | (rw [hexF_ok (hexV_end i3 (by omega)) (by omega) (by omega) (by omega) (.inr ⟨_, by assumption, by omega⟩)]; done)), (by first | (exfalso; omega) | (rw [hexF_len (by omega)]; done) | (rw [hexF_zero (by omega) (by assumption) (by omega)]; done) | (rw [hexF_bad i3 (by assumption) (by omega)]; done) | (rw [hexF_big (hexV_end i3 (by omega)) (by omega)]; done) | (rw [hexF_ok (hexV_end i3 (by omega)) (by omega) (by omega) (by omega) (.inl (by omega))]; done) | (rw [hexF_ok (hexV_end i3 (by omega)) (by omega) (by omega) (by omega) (.inr ⟨_, by assumption, by omega⟩)]; done))⟩
      exact ⟨tup2 (congrArg (Value.int .i32) hE.1) (congrArg (Value.int .i64) hE.2), hb⟩
    · intro h4
      replace h4 : (s).length ≤ 6 := by omega
      refine L_pickF (by kernel_rfl) (L_mv (L_want (by kernel_rfl) (L_mv (L_want (by kernel_rfl) (L_slen 9 s rfl Try.underlying9 (by kernel_rfl) (L_want (by kernel_rfl) (L_cmp .i64 (((s).length : Nat) : Int) ((4 : Nat) : Int) (4 < (s).length) rfl (cmpN_gt ((s).length) 4) (by kernel_rfl) (by kernel_rfl) ?_ ?_)))))))
      · intro h5
        replace h5 : 4 < (s).length := by omega
        refine L_want (by kernel_rfl) (L_mv (L_want (by kernel_rfl) (L_mv (L_want (by kernel_rfl) ?_))))
        have hz := get_some s 0 (by omega); obtain ⟨c6, hc7⟩ := hz
        have := c6.toNat_lt
        have hdr := digitV_range c6.toNat
        have hib := ibF_tab c6
        refine L_sindex (k := .i64) s 0 c6 Try.underlying9 hc7 (by kernel_rfl) (by kernel_rfl) (L_want (by kernel_rfl) (L_cmp .u8 ((c6.toNat : Nat) : Int) ((48 : Nat) : Int) (c6.toNat = 48) rfl (cmpN_eq c6.toNat 48) (by kernel_rfl) (by kernel_rfl) ?_ ?_))
        · intro h8
          replace h8 : c6.toNat = 48 := by omega
          refine L_want (by kernel_rfl) (L_pickT (by kernel_rfl) (L_pickF (by kernel_rfl) (L_nil (thenQ_normal (W_true (by kernel_rfl) (W_seq (W_region (L_as (L_as (L_nil (thenQ_normal (W_ret (thenQ_ret ?_)))))))))))))
          refine end_ret [.tmp 2, .tmp 3] [(.int .i32 0), (.int .i64 40)] rfl rfl ⟨by kernel_rfl, by kernel_rfl, trivial⟩ ?_
          have hE : ((0 : Int) = (hexF s).1) ∧ ((40 : Int) = (hexF s).2) := ⟨(by first | (exfalso; omega) | (rw [hexF_len (by omega)]; done) | (rw [hexF_zero (by omega) (by assumption) (by omega)]; done) | (rw [hexF_bad i3 (by assumption) (by omega)]; done) | (rw [hexF_big (hexV_end i3 (by omega)) (by omega)]; done) | (rw [hexF_ok (hexV_end i3 (by omega)) (by omega) (by omega) (by omega) (.inl (by omega))]; done) | (rw [hexF_ok (hexV_end i3 (by omega)) (by omega) (by omega) (by omega) (.inr ⟨_, by assumption, by omega⟩)]; done)), (by first | (exfalso; omega) | (rw [hexF_len (by omega)]; done) | (rw [hexF_zero (by omega) (by assumption) (by omega)]; done) | (rw [hexF_bad i3 (by assumption) (by omega)]; done) | (rw [hexF_big (hexV_end i3 (by omega)) (by omega)]; done) | (rw [hexF_ok (hexV_end i3 (by omega)) (by omega) (by omega) (by omega) (.inl (by omega))]; done) | (rw [hexF_ok (hexV_end i3 (by omega)) (by omega) (by omega) (by omega) (.inr ⟨_, by assumption, by omega⟩)]; done))⟩
          exact ⟨tup2 (congrArg (Value.int .i32) hE.1) (congrArg (Value.int .i64) hE.2), hb⟩
        · intro h9
          replace h9 : c6.toNat ≠ 48 := by omega
          refine L_want (by kernel_rfl) (L_pickT (by kernel_rfl) (L_pickF (by kernel_rfl) (L_nil (thenQ_normal (W_false (by kernel_rfl) (W_skip (thenQ_normal (W_seq (W_region (L_as (L_nil (thenQ_normal (W_seq (W_seq (W_region (L_mv (L_slen 9 s rfl Try.underlying9 (by kernel_rfl) (L_mv (L_nil (thenQ_normal (W_block ?_)))))))))))))))))))))
          refine W_loop (fun m s0 w0 => ∃ (i : Nat) (n : Nat), (m = s.length - i) ∧ (s0.ds = []) ∧ (s0.f 0 = (S s)) ∧ (s0.f 26 = (.int .i64 (((s).length : Nat) : Int))) ∧ (s0.f 4 = (.int .i32 ((n : Nat) : Int))) ∧ (s0.f 27 = (.int .i64 ((i : Nat) : Int))) ∧ (Below w.heap.size w w0) ∧ (w.heap.size ≤ w0.heap.size) ∧ (i ≤ s.length) ∧ (n < 16 ^ i) ∧ (hexV (s.drop i) n = hexV s 0)) _ ⟨0, 0, rfl, by kernel_rfl, by kernel_rfl, by kernel_rfl, by kernel_rfl, by kernel_rfl, hb, hs, by omega, by decide, rfl⟩ ?_
          rintro m10 s11 w12 ⟨i, n, hm, hds, f_0, f_26, f_4, f_27, hb, hs, i1, i2, i3⟩
          refine W_set 0 _ f_0 (W_set 26 _ f_26 (W_set 4 _ f_4 (W_set 27 _ f_27 ?_)))
          clear f_0 f_26 f_4 f_27
          have hp5 : i ≤ 5 → n < 1048576 := pow16 i2
          have hp6 : i ≤ 6 → n < 16777216 := pow166 i2
          refine W_seq (W_region (L_cmp .i64 ((i : Nat) : Int) (((s).length : Nat) : Int) (i < (s).length) rfl (cmpN_lt i ((s).length)) (by kernel_rfl) (by kernel_rfl) ?_ ?_))
          · intro h13
            replace h13 : i < (s).length := by omega
            refine L_nil (thenQ_normal (W_seq (W_true (by kernel_rfl) (W_skip (thenQ_normal (W_seq (W_block (W_seq (W_region (L_mv (L_as (L_nil (thenQ_normal (W_seq (W_region (L_mv (L_mv ?_)))))))))))))))))
            have hz := get_some s i (by omega); obtain ⟨c14, hc15⟩ := hz
            have := c14.toNat_lt
            have hdr := digitV_range c14.toNat
            have hib := ibF_tab c14
            refine L_sindex (k := .i64) s i c14 Try.underlying9 hc15 (by kernel_rfl) (by kernel_rfl) (L_call 82 [(S ([48, 49, 50, 51, 52, 53, 54, 55, 56, 57, 65, 66, 67, 68, 69, 70] : List UInt8)), (.int .u8 ((c14.toNat : Nat) : Int))] (by kernel_rfl) (by kernel_rfl) (c_strings_IndexByte ([48, 49, 50, 51, 52, 53, 54, 55, 56, 57, 65, 66, 67, 68, 69, 70] : List UInt8) ((c14.toNat : Nat) : Int) _ ) ?_)
            rintro _ w16 ⟨rfl, hB17⟩
            replace hb := hb.trans (hB17.mono hs)
            replace hs := Nat.le_trans hs (hB17.size)
            refine L_as (L_nil (thenQ_normal (W_seq (W_seq (W_region (L_mv (L_cmp .i64 (ibF ([48, 49, 50, 51, 52, 53, 54, 55, 56, 57, 65, 66, 67, 68, 69, 70] : List UInt8) ((c14.toNat : Nat) : Int)) 0 ((ibF ([48, 49, 50, 51, 52, 53, 54, 55, 56, 57, 65, 66, 67, 68, 69, 70] : List UInt8) ((c14.toNat : Nat) : Int)) < 0) rfl (cmp_lt (ibF ([48, 49, 50, 51, 52, 53, 54, 55, 56, 57, 65, 66, 67, 68, 69, 70] : List UInt8) ((c14.toNat : Nat) : Int)) 0) (by kernel_rfl) (by kernel_rfl) ?_ ?_)))))))
            · intro h19
              replace h19 : (ibF ([48, 49, 50, 51, 52, 53, 54, 55, 56, 57, 65, 66, 67, 68, 69, 70] : List UInt8) ((c14.toNat : Nat) : Int)) < 0 := by omega
              refine L_nil (thenQ_normal (W_true (by kernel_rfl) (W_seq (W_region (L_as (L_as (L_nil (thenQ_normal (W_ret (thenQ_ret (blkQ_ret (thenQ_ret (thenQ_ret (blkQ_ret (thenQ_ret ?_)))))))))))))))
              refine end_ret [.tmp 2, .tmp 3] [(.int .i32 0), (.int .i64 40)] rfl hds ⟨by kernel_rfl, by kernel_rfl, trivial⟩ ?_
              have hE : ((0 : Int) = (hexF s).1) ∧ ((40 : Int) = (hexF s).2) := ⟨(by first | (exfalso; omega) | (rw [hexF_len (by omega)]; done) | (rw [hexF_zero (by omega) (by assumption) (by omega)]; done) | (rw [hexF_bad i3 (by assumption) (by omega)]; done) | (rw [hexF_big (hexV_end i3 (by omega)) (by omega)]; done) | (rw [hexF_ok (hexV_end i3 (by omega)) (by omega) (by omega) (by omega) (.inl (by omega))]; done) | (rw [hexF_ok (hexV_end i3 (by omega)) (by omega) (by omega) (by omega) (.inr ⟨_, by assumption, by omega⟩)]; done)), (by first | (exfalso; omega) | (rw [hexF_len (by omega)]; done) | (rw [hexF_zero (by omega) (by assumption) (by omega)]; done) | (rw [hexF_bad i3 (by assumption) (by omega)]; done) | (rw [hexF_big (hexV_end i3 (by omega)) (by omega)]; done) | (rw [hexF_ok (hexV_end i3 (by omega)) (by omega) (by omega) (by omega) (.inl (by omega))]; done) | (rw [hexF_ok (hexV_end i3 (by omega)) (by omega) (by omega) (by omega) (.inr ⟨_, by assumption, by omega⟩)]; done))⟩
              exact ⟨tup2 (congrArg (Value.int .i32) hE.1) (congrArg (Value.int .i64) hE.2), hb⟩
            · intro h20
              replace h20 : 0 ≤ (ibF ([48, 49, 50, 51, 52, 53, 54, 55, 56, 57, 65, 66, 67, 68, 69, 70] : List UInt8) ((c14.toNat : Nat) : Int)) := by omega
              refine L_nil (thenQ_normal (W_false (by kernel_rfl) (W_skip (thenQ_normal (W_region (L_mv (L_shl (k := .i32) (yk := .u64) ((n : Nat) : Int) (((16 * n) : Nat) : Int) 4 16 rfl (by kernel_rfl) (by kernel_rfl) (by kernel_rfl) (by rw [wrap_i32 _ (by omega) (by omega)]; omega) (L_mv (L_conv (k := .i64) (ibF ([48, 49, 50, 51, 52, 53, 54, 55, 56, 57, 65, 66, 67, 68, 69, 70] : List UInt8) ((c14.toNat : Nat) : Int)) (ibF ([48, 49, 50, 51, 52, 53, 54, 55, 56, 57, 65, 66, 67, 68, 69, 70] : List UInt8) ((c14.toNat : Nat) : Int)) (by kernel_rfl) Try.underlying21 (by kernel_rfl) (wrap_i32 _ (by omega) (by omega)) (L_orD (((16 * n) : Nat) : Int) (ibF ([48, 49, 50, 51, 52, 53, 54, 55, 56, 57, 65, 66, 67, 68, 69, 70] : List UInt8) ((c14.toNat : Nat) : Int)) n ((ibF ([48, 49, 50, 51, 52, 53, 54, 55, 56, 57, 65, 66, 67, 68, 69, 70] : List UInt8) ((c14.toNat : Nat) : Int)).toNat) (by omega) (by omega) (by kernel_rfl) (by kernel_rfl) (L_as (L_nil (blkQ_normal (thenQ_normal (W_region (L_addN i 1 (by omega) (by kernel_rfl) (by kernel_rfl) (L_mv (L_nil ?_))))))))))))))))))
              refine thenQ_normal ⟨_, ?_, (i + 1), (16 * n + ((ibF ([48, 49, 50, 51, 52, 53, 54, 55, 56, 57, 65, 66, 67, 68, 69, 70] : List UInt8) ((c14.toNat : Nat) : Int)).toNat)), rfl, hds, by kernel_rfl, by kernel_rfl, by kernel_rfl, by kernel_rfl, hb, hs, ?_, ?_, ?_⟩
              · omega
              · omega
              · rw [hib]; exact pow16s i2 (by omega)
              · rw [hib]; exact hexV_step i3 (by assumption) (by omega)
          · intro h21
            replace h21 : (s).length ≤ i := by omega
            refine L_nil (thenQ_normal (W_seq (W_false (by kernel_rfl) (W_exit (thenQ_exit (thenQ_exit (blkQ_exit (thenQ_normal (W_seq (W_seq (W_region (L_mv (L_cmp .i32 ((n : Nat) : Int) ((1114111 : Nat) : Int) (1114111 < n) rfl (cmpN_gt n 1114111) (by kernel_rfl) (by kernel_rfl) ?_ ?_)))))))))))))
            · intro h22
              replace h22 : 1114111 < n := by omega
              refine L_nil (thenQ_normal (W_true (by kernel_rfl) (W_seq (W_region (L_as (L_as (L_nil (thenQ_normal (W_ret (thenQ_ret ?_))))))))))
              refine end_ret [.tmp 2, .tmp 3] [(.int .i32 0), (.int .i64 40)] rfl hds ⟨by kernel_rfl, by kernel_rfl, trivial⟩ ?_
              have hE : ((0 : Int) = (hexF s).1) ∧ ((40 : Int) = (hexF s).2) := ⟨(by first | (exfalso; omega) | (rw [hexF_len (by omega)]; done) | (rw [hexF_zero (by omega) (by assumption) (by omega)]; done) | (rw [hexF_bad i3 (by assumption) (by omega)]; done) | (rw [hexF_big (hexV_end i3 (by omega)) (by omega)]; done) | (rw [hexF_ok (hexV_end i3 (by omega)) (by omega) (by omega) (by omega) (.inl (by omega))]; done) | (rw [hexF_ok (hexV_end i3 (by omega)) (by omega) (by omega) (by omega) (.inr ⟨_, by assumption, by omega⟩)]; done)), (by first | (exfalso; omega) | (rw [hexF_len (by omega)]; done) | (rw [hexF_zero (by omega) (by assumption) (by omega)]; done) | (rw [hexF_bad i3 (by assumption) (by omega)]; done) | (rw [hexF_big (hexV_end i3 (by omega)) (by omega)]; done) | (rw [hexF_ok (hexV_end i3 (by omega)) (by omega) (by omega) (by omega) (.inl (by omega))]; done) | (rw [hexF_ok (hexV_end i3 (by omega)) (by omega) (by omega) (by omega) (.inr ⟨_, by assumption, by omega⟩)]; done))⟩
              exact ⟨tup2 (congrArg (Value.int .i32) hE.1) (congrArg (Value.int .i64) hE.2), hb⟩
            · intro h23
              replace h23 : n ≤ 1114111 := by omega
              refine L_nil (thenQ_normal (W_false (by kernel_rfl) (W_skip (thenQ_normal (W_seq (W_region (L_mv (L_as (L_as (L_nil (thenQ_normal (W_ret ?_))))))))))))
              refine end_ret [.tmp 2, .tmp 3] [(.int .i32 ((n : Nat) : Int)), (.int .i64 0)] rfl hds ⟨by kernel_rfl, by kernel_rfl, trivial⟩ ?_
              have hE : ((((n : Nat) : Int) : Int) = (hexF s).1) ∧ ((0 : Int) = (hexF s).2) := ⟨(by first | (exfalso; omega) | (rw [hexF_len (by omega)]; done) | (rw [hexF_zero (by omega) (by assumption) (by omega)]; done) | (rw [hexF_bad i3 (by assumption) (by omega)]; done) | (rw [hexF_big (hexV_end i3 (by omega)) (by omega)]; done) | (rw [hexF_ok (hexV_end i3 (by omega)) (by omega) (by omega) (by omega) (.inl (by omega))]; done) | (rw [hexF_ok (hexV_end i3 (by omega)) (by omega) (by omega) (by omega) (.inr ⟨_, by assumption, by omega⟩)]; done)), (by first | (exfalso; omega) | (rw [hexF_len (by omega)]; done) | (rw [hexF_zero (by omega) (by assumption) (by omega)]; done) | (rw [hexF_bad i3 (by assumption) (by omega)]; done) | (rw [hexF_big (hexV_end i3 (by omega)) (by omega)]; done) | (rw [hexF_ok (hexV_end i3 (by omega)) (by omega) (by omega) (by omega) (.inl (by omega))]; done) | (rw [hexF_ok (hexV_end i3 (by omega)) (by omega) (by omega) (by omega) (.inr ⟨_, by assumption, by omega⟩)]; done))⟩
              exact ⟨tup2 (congrArg (Value.int .i32) hE.1) (congrArg (Value.int .i64) hE.2), hb⟩
      · intro h24
        replace h24 : (s).length ≤ 4 := by omega
        refine L_want (by kernel_rfl) (L_mv (L_skip (by kernel_rfl) (L_skip (by kernel_rfl) (L_skip (by kernel_rfl) (L_want (by kernel_rfl) (L_pickF (by kernel_rfl) (L_pickF (by kernel_rfl) (L_nil (thenQ_normal (W_false (by kernel_rfl) (W_skip (thenQ_normal (W_seq (W_region (L_as (L_nil (thenQ_normal (W_seq (W_seq (W_region (L_mv (L_slen 9 s rfl Try.underlying9 (by kernel_rfl) (L_mv (L_nil (thenQ_normal (W_block ?_))))))))))))))))))))))))))
        refine W_loop (fun m s0 w0 => ∃ (i : Nat) (n : Nat), (m = s.length - i) ∧ (s0.ds = []) ∧ (s0.f 0 = (S s)) ∧ (s0.f 26 = (.int .i64 (((s).length : Nat) : Int))) ∧ (s0.f 4 = (.int .i32 ((n : Nat) : Int))) ∧ (s0.f 27 = (.int .i64 ((i : Nat) : Int))) ∧ (Below w.heap.size w w0) ∧ (w.heap.size ≤ w0.heap.size) ∧ (i ≤ s.length) ∧ (n < 16 ^ i) ∧ (hexV (s.drop i) n = hexV s 0)) _ ⟨0, 0, rfl, by kernel_rfl, by kernel_rfl, by kernel_rfl, by kernel_rfl, by kernel_rfl, hb, hs, by omega, by decide, rfl⟩ ?_
        rintro m25 s26 w27 ⟨i, n, hm, hds, f_0, f_26, f_4, f_27, hb, hs, i1, i2, i3⟩
        refine W_set 0 _ f_0 (W_set 26 _ f_26 (W_set 4 _ f_4 (W_set 27 _ f_27 ?_)))
        clear f_0 f_26 f_4 f_27
        have hp5 : i ≤ 5 → n < 1048576 := pow16 i2
        have hp6 : i ≤ 6 → n < 16777216 := pow166 i2
        refine W_seq (W_region (L_cmp .i64 ((i : Nat) : Int) (((s).length : Nat) : Int) (i < (s).length) rfl (cmpN_lt i ((s).length)) (by kernel_rfl) (by kernel_rfl) ?_ ?_))
        · intro h28
          replace h28 : i < (s).length := by omega
          refine L_nil (thenQ_normal (W_seq (W_true (by kernel_rfl) (W_skip (thenQ_normal (W_seq (W_block (W_seq (W_region (L_mv (L_as (L_nil (thenQ_normal (W_seq (W_region (L_mv (L_mv ?_)))))))))))))))))
          have hz := get_some s i (by omega); obtain ⟨c29, hc30⟩ := hz
          have := c29.toNat_lt
          have hdr := digitV_range c29.toNat
          have hib := ibF_tab c29
          refine L_sindex (k := .i64) s i c29 Try.underlying9 hc30 (by kernel_rfl) (by kernel_rfl) (L_call 82 [(S ([48, 49, 50, 51, 52, 53, 54, 55, 56, 57, 65, 66, 67, 68, 69, 70] : List UInt8)), (.int .u8 ((c29.toNat : Nat) : Int))] (by kernel_rfl) (by kernel_rfl) (c_strings_IndexByte ([48, 49, 50, 51, 52, 53, 54, 55, 56, 57, 65, 66, 67, 68, 69, 70] : List UInt8) ((c29.toNat : Nat) : Int) _ ) ?_)
          rintro _ w31 ⟨rfl, hB32⟩
          replace hb := hb.trans (hB32.mono hs)
          replace hs := Nat.le_trans hs (hB32.size)
          refine L_as (L_nil (thenQ_normal (W_seq (W_seq (W_region (L_mv (L_cmp .i64 (ibF ([48, 49, 50, 51, 52, 53, 54, 55, 56, 57, 65, 66, 67, 68, 69, 70] : List UInt8) ((c29.toNat : Nat) : Int)) 0 ((ibF ([48, 49, 50, 51, 52, 53, 54, 55, 56, 57, 65, 66, 67, 68, 69, 70] : List UInt8) ((c29.toNat : Nat) : Int)) < 0) rfl (cmp_lt (ibF ([48, 49, 50, 51, 52, 53, 54, 55, 56, 57, 65, 66, 67, 68, 69, 70] : List UInt8) ((c29.toNat : Nat) : Int)) 0) (by kernel_rfl) (by kernel_rfl) ?_ ?_)))))))
          · intro h34
            replace h34 : (ibF ([48, 49, 50, 51, 52, 53, 54, 55, 56, 57, 65, 66, 67, 68, 69, 70] : List UInt8) ((c29.toNat : Nat) : Int)) < 0 := by omega
            refine L_nil (thenQ_normal (W_true (by kernel_rfl) (W_seq (W_region (L_as (L_as (L_nil (thenQ_normal (W_ret (thenQ_ret (blkQ_ret (thenQ_ret (thenQ_ret (blkQ_ret (thenQ_ret ?_)))))))))))))))
            refine end_ret [.tmp 2, .tmp 3] [(.int .i32 0), (.int .i64 40)] rfl hds ⟨by kernel_rfl, by kernel_rfl, trivial⟩ ?_
            have hE : ((0 : Int) = (hexF s).1) ∧ ((40 : Int) = (hexF s).2) := ⟨(by first | (exfalso; omega) | (rw [hexF_len (by omega)]; done) | (rw [hexF_zero (by omega) (by assumption) (by omega)]; done) | (rw [hexF_bad i3 (by assumption) (by omega)]; done) | (rw [hexF_big (hexV_end i3 (by omega)) (by omega)]; done) | (rw [hexF_ok (hexV_end i3 (by omega)) (by omega) (by omega) (by omega) (.inl (by omega))]; done) | (rw [hexF_ok (hexV_end i3 (by omega)) (by omega) (by omega) (by omega) (.inr ⟨_, by assumption, by omega⟩)]; done)), (by first | (exfalso; omega) | (rw [hexF_len (by omega)]; done) | (rw [hexF_zero (by omega) (by assumption) (by omega)]; done) | (rw [hexF_bad i3 (by assumption) (by omega)]; done) | (rw [hexF_big (hexV_end i3 (by omega)) (by omega)]; done) | (rw [hexF_ok (hexV_end i3 (by omega)) (by omega) (by omega) (by omega) (.inl (by omega))]; done) | (rw [hexF_ok (hexV_end i3 (by omega)) (by omega) (by omega) (by omega) (.inr ⟨_, by assumption, by omega⟩)]; done))⟩
            exact ⟨tup2 (congrArg (Value.int .i32) hE.1) (congrArg (Value.int .i64) hE.2), hb⟩
          · intro h35
            replace h35 : 0 ≤ (ibF ([48, 49, 50, 51, 52, 53, 54, 55, 56, 57, 65, 66, 67, 68, 69, 70] : List UInt8) ((c29.toNat : Nat) : Int)) := by omega
            refine L_nil (thenQ_normal (W_false (by kernel_rfl) (W_skip (thenQ_normal (W_region (L_mv (L_shl (k := .i32) (yk := .u64) ((n : Nat) : Int) (((16 * n) : Nat) : Int) 4 16 rfl (by kernel_rfl) (by kernel_rfl) (by kernel_rfl) (by rw [wrap_i32 _ (by omega) (by omega)]; omega) (L_mv (L_conv (k := .i64) (ibF ([48, 49, 50, 51, 52, 53, 54, 55, 56, 57, 65, 66, 67, 68, 69, 70] : List UInt8) ((c29.toNat : Nat) : Int)) (ibF ([48, 49, 50, 51, 52, 53, 54, 55, 56, 57, 65, 66, 67, 68, 69, 70] : List UInt8) ((c29.toNat : Nat) : Int)) (by kernel_rfl) Try.underlying21 (by kernel_rfl) (wrap_i32 _ (by omega) (by omega)) (L_orD (((16 * n) : Nat) : Int) (ibF ([48, 49, 50, 51, 52, 53, 54, 55, 56, 57, 65, 66, 67, 68, 69, 70] : List UInt8) ((c29.toNat : Nat) : Int)) n ((ibF ([48, 49, 50, 51, 52, 53, 54, 55, 56, 57, 65, 66, 67, 68, 69, 70] : List UInt8) ((c29.toNat : Nat) : Int)).toNat) (by omega) (by omega) (by kernel_rfl) (by kernel_rfl) (L_as (L_nil (blkQ_normal (thenQ_normal (W_region (L_addN i 1 (by omega) (by kernel_rfl) (by kernel_rfl) (L_mv (L_nil ?_))))))))))))))))))
            refine thenQ_normal ⟨_, ?_, (i + 1), (16 * n + ((ibF ([48, 49, 50, 51, 52, 53, 54, 55, 56, 57, 65, 66, 67, 68, 69, 70] : List UInt8) ((c29.toNat : Nat) : Int)).toNat)), rfl, hds, by kernel_rfl, by kernel_rfl, by kernel_rfl, by kernel_rfl, hb, hs, ?_, ?_, ?_⟩
            · omega
            · omega
            · rw [hib]; exact pow16s i2 (by omega)
            · rw [hib]; exact hexV_step i3 (by assumption) (by omega)
        · intro h36
          replace h36 : (s).length ≤ i := by omega
          refine L_nil (thenQ_normal (W_seq (W_false (by kernel_rfl) (W_exit (thenQ_exit (thenQ_exit (blkQ_exit (thenQ_normal (W_seq (W_seq (W_region (L_mv (L_cmp .i32 ((n : Nat) : Int) ((1114111 : Nat) : Int) (1114111 < n) rfl (cmpN_gt n 1114111) (by kernel_rfl) (by kernel_rfl) ?_ ?_)))))))))))))
          · intro h37
            replace h37 : 1114111 < n := by omega
            refine L_nil (thenQ_normal (W_true (by kernel_rfl) (W_seq (W_region (L_as (L_as (L_nil (thenQ_normal (W_ret (thenQ_ret ?_))))))))))
            refine end_ret [.tmp 2, .tmp 3] [(.int .i32 0), (.int .i64 40)] rfl hds ⟨by kernel_rfl, by kernel_rfl, trivial⟩ ?_
            have hE : ((0 : Int) = (hexF s).1) ∧ ((40 : Int) = (hexF s).2) := ⟨(by first | (exfalso; omega) | (rw [hexF_len (by omega)]; done) | (rw [hexF_zero (by omega) (by assumption) (by omega)]; done) | (rw [hexF_bad i3 (by assumption) (by omega)]; done) | (rw [hexF_big (hexV_end i3 (by omega)) (by omega)]; done) | (rw [hexF_ok (hexV_end i3 (by omega)) (by omega) (by omega) (by omega) (.inl (by omega))]; done) | (rw [hexF_ok (hexV_end i3 (by omega)) (by omega) (by omega) (by omega) (.inr ⟨_, by assumption, by omega⟩)]; done)), (by first | (exfalso; omega) | (rw [hexF_len (by omega)]; done) | (rw [hexF_zero (by omega) (by assumption) (by omega)]; done) | (rw [hexF_bad i3 (by assumption) (by omega)]; done) | (rw [hexF_big (hexV_end i3 (by omega)) (by omega)]; done) | (rw [hexF_ok (hexV_end i3 (by omega)) (by omega) (by omega) (by omega) (.inl (by omega))]; done) | (rw [hexF_ok (hexV_end i3 (by omega)) (by omega) (by omega) (by omega) (.inr ⟨_, by assumption, by omega⟩)]; done))⟩
            exact ⟨tup2 (congrArg (Value.int .i32) hE.1) (congrArg (Value.int .i64) hE.2), hb⟩
          · intro h38
            replace h38 : n ≤ 1114111 := by omega
            refine L_nil (thenQ_normal (W_false (by kernel_rfl) (W_skip (thenQ_normal (W_seq (W_region (L_mv (L_as (L_as (L_nil (thenQ_normal (W_ret ?_))))))))))))
            refine end_ret [.tmp 2, .tmp 3] [(.int .i32 ((n : Nat) : Int)), (.int .i64 0)] rfl hds ⟨by kernel_rfl, by kernel_rfl, trivial⟩ ?_
            have hE : ((((n : Nat) : Int) : Int) = (hexF s).1) ∧ ((0 : Int) = (hexF s).2) := ⟨(by first | (exfalso; omega) | (rw [hexF_len (by omega)]; done) | (rw [hexF_zero (by omega) (by assumption) (by omega)]; done) | (rw [hexF_bad i3 (by assumption) (by omega)]; done) | (rw [hexF_big (hexV_end i3 (by omega)) (by omega)]; done) | (rw [hexF_ok (hexV_end i3 (by omega)) (by omega) (by omega) (by omega) (.inl (by omega))]; done) | (rw [hexF_ok (hexV_end i3 (by omega)) (by omega) (by omega) (by omega) (.inr ⟨_, by assumption, by omega⟩)]; done)), (by first | (exfalso; omega) | (rw [hexF_len (by omega)]; done) | (rw [hexF_zero (by omega) (by assumption) (by omega)]; done) | (rw [hexF_bad i3 (by assumption) (by omega)]; done) | (rw [hexF_big (hexV_end i3 (by omega)) (by omega)]; done) | (rw [hexF_ok (hexV_end i3 (by omega)) (by omega) (by omega) (by omega) (.inl (by omega))]; done) | (rw [hexF_ok (hexV_end i3 (by omega)) (by omega) (by omega) (by omega) (.inr ⟨_, by assumption, by omega⟩)]; done))⟩
            exact ⟨tup2 (congrArg (Value.int .i32) hE.1) (congrArg (Value.int .i64) hE.2), hb⟩

set_option maxHeartbeats 4000000 in
set_option maxRecDepth 100000 in
theorem c_furrowref04_Digit (b : Int) (w : World) (hb0 : 0 ≤ b) :
    Calls Try.prog 83 #[(.int .u8 b)] w (Ret fun v w' => v = (.int .i64 (digitV b.toNat)) ∧ Below w.heap.size w w') := by
  refine enter (args := [(.int .u8 b)]) Try.func83 rfl (by kernel_rfl : _ = 13) (by kernel_rfl) ?_
  have hb := Below.refl w.heap.size w
  have hs : w.heap.size ≤ w.heap.size := Nat.le_refl _
  refine W_seq (W_region (L_as (L_nil (thenQ_normal (W_seq (W_seq (W_region (L_as (L_nil (thenQ_normal (W_block ?_)))))))))))
  refine W_loop (fun m s0 w0 => ∃ (i : Nat), (m = 16 - i) ∧ (s0.ds = []) ∧ (s0.f 0 = (.int .u8 b)) ∧ (s0.f 3 = (.int .i64 ((i : Nat) : Int))) ∧ (Below w.heap.size w w0) ∧ (w.heap.size ≤ w0.heap.size) ∧ (i ≤ 16) ∧ (digInv b i)) _ ⟨0, rfl, by kernel_rfl, by kernel_rfl, by kernel_rfl, hb, hs, by omega, digInv_zero b⟩ ?_
  rintro m1 s2 w3 ⟨i, hm, hds, f_0, f_3, hb, hs, i1, i3⟩
  refine W_set 0 _ f_0 (W_set 3 _ f_3 ?_)
  clear f_0 f_3
  refine W_seq (W_seq (W_region (L_mv (L_cmp .i64 ((i : Nat) : Int) ((16 : Nat) : Int) (i < 16) rfl (cmpN_lt i 16) (by kernel_rfl) (by kernel_rfl) ?_ ?_))))
  · intro h4
    replace h4 : i < 16 := by omega
    refine L_nil (thenQ_normal (W_true (by kernel_rfl) (W_skip (thenQ_normal (W_seq (W_block (W_seq (W_region (L_mv ?_)))))))))
    have hz := get_some ([48, 49, 50, 51, 52, 53, 54, 55, 56, 57, 65, 66, 67, 68, 69, 70] : List UInt8) i (by first | omega | (simp; omega)); obtain ⟨c5, hc6⟩ := hz
    have := c5.toNat_lt
    refine L_sindex (k := .i64) ([48, 49, 50, 51, 52, 53, 54, 55, 56, 57, 65, 66, 67, 68, 69, 70] : List UInt8) i c5 Try.underlying9 hc6 (by kernel_rfl) (by kernel_rfl) (L_mv (L_cmp .u8 ((c5.toNat : Nat) : Int) b (((c5.toNat : Nat) : Int) = b) rfl (cmp_eq ((c5.toNat : Nat) : Int) b) (by kernel_rfl) (by kernel_rfl) ?_ ?_))
    · intro h7
      replace h7 : ((c5.toNat : Nat) : Int) = b := by omega
      refine L_nil (thenQ_normal (W_true (by kernel_rfl) (W_seq (W_region (L_mv (L_as (L_nil (thenQ_normal (W_ret (blkQ_ret (thenQ_ret (thenQ_ret (blkQ_ret (thenQ_ret ?_))))))))))))))
      refine end_ret [.tmp 2] [(.int .i64 ((i : Nat) : Int))] rfl hds ⟨by kernel_rfl, trivial⟩ ?_
      have e0 : (((i : Nat) : Int) : Int) = (digitV b.toNat) := by first | exact (digInv_end i3 (by omega) hb0).symm | (have hf := dig_found (by assumption); rw [← hf]; congr 1; omega)
      exact ⟨congrArg (Value.int .i64) e0, hb⟩
    · intro h8
      replace h8 : ((c5.toNat : Nat) : Int) ≠ b := by omega
      refine L_nil (thenQ_normal (W_false (by kernel_rfl) (W_skip (blkQ_normal (thenQ_normal (W_region (L_mv (L_addN i 1 (by omega) (by kernel_rfl) (by kernel_rfl) (L_as (L_nil ?_))))))))))
      refine thenQ_normal ⟨_, ?_, (i + 1), rfl, hds, by kernel_rfl, by kernel_rfl, hb, hs, ?_, ?_⟩
      · omega
      · omega
      · exact digInv_succ i3 (by assumption) (by omega)
  · intro h9
    replace h9 : 16 ≤ i := by omega
    refine L_nil (thenQ_normal (W_false (by kernel_rfl) (W_exit (thenQ_exit (thenQ_exit (blkQ_exit (thenQ_normal (W_seq (W_region (L_as (L_nil (thenQ_normal (W_ret ?_)))))))))))))
    refine end_ret [.tmp 2] [(.int .i64 (-1))] rfl hds ⟨by kernel_rfl, trivial⟩ ?_
    have e0 : (-1 : Int) = (digitV b.toNat) := by first | exact (digInv_end i3 (by omega) hb0).symm | (have hf := dig_found (by assumption); rw [← hf]; congr 1; omega)
    exact ⟨congrArg (Value.int .i64) e0, hb⟩

set_option maxHeartbeats 4000000 in
set_option maxRecDepth 100000 in
theorem c_furrowref04_Read (s : List UInt8) (w : World) (hs : s.length ≤ 1073741824) :
    Calls Try.prog 32 #[(S s)] w (Ret fun v w' => v = (.tuple #[(.int .i32 ((hexF s).1)), (.int .i64 ((hexF s).2))]) ∧ Below w.heap.size w w') := by
  refine enter (args := [(S s)]) Try.func32 rfl (by kernel_rfl : _ = 45) (by kernel_rfl) ?_
  have hb := Below.refl w.heap.size w
  have hs : w.heap.size ≤ w.heap.size := Nat.le_refl _
  refine W_seq (W_region (L_as (L_as (L_nil (thenQ_normal (W_seq (W_seq (W_region (L_mv (L_slen 9 s rfl Try.underlying9 (by kernel_rfl) (L_cmp .i64 (((s).length : Nat) : Int) ((4 : Nat) : Int) ((s).length < 4) rfl (cmpN_lt ((s).length) 4) (by kernel_rfl) (by kernel_rfl) ?_ ?_)))))))))))
  · intro h1
    replace h1 : (s).length < 4 := by omega
    refine L_mv (L_skip (by kernel_rfl) (L_skip (by kernel_rfl) (L_skip (by kernel_rfl) (L_pickT (by kernel_rfl) (L_nil (thenQ_normal (W_true (by kernel_rfl) (W_seq (W_region (L_as (L_as (L_nil (thenQ_normal (W_ret (thenQ_ret ?_)))))))))))))))
    refine end_ret [.tmp 2, .tmp 3] [(.int .i32 0), (.int .i64 40)] rfl rfl ⟨by kernel_rfl, by kernel_rfl, trivial⟩ ?_
    have hE : ((0 : Int) = (hexF s).1) ∧ ((40 : Int) = (hexF s).2) := ⟨(by first | (exfalso; omega) | (rw [hexF_len (by omega)]; done) | (rw [hexF_zero (by omega) (by assumption) (by omega)]; done) | (rw [hexF_bad i3 (by assumption) (by omega)]; done) | (rw [hexF_big (hexV_end i3 (by omega)) (by omega)]; done) | (rw [hexF_ok (hexV_end i3 (by omega)) (by omega) (by omega) (by omega) (.inl (by omega))]; first | done | exact (Int.toNat_of_nonneg i0).symm) | (rw [hexF_ok (hexV_end i3 (by omega)) (by omega) (by omega) (by omega) (.inr ⟨_, by assumption, by omega⟩)]; first | done | exact (Int.toNat_of_nonneg i0).symm)), (by first | (exfalso; omega) | (rw [hexF_len (by omega)]; done) | (rw [hexF_zero (by omega) (by assumption) (by omega)]; done) | (rw [hexF_bad i3 (by assumption) (by omega)]; done) | (rw [hexF_big (hexV_end i3 (by omega)) (by omega)]; done) | (rw [hexF_ok (hexV_end i3 (by omega)) (by omega) (by omega) (by omega) (.inl (by omega))]; first | done | exact (Int.toNat_of_nonneg i0).symm) | (rw [hexF_ok (hexV_end i3 (by omega)) (by omega) (by omega) (by omega) (.inr ⟨_, by assumption, by omega⟩)]; first | done | exact (Int.toNat_of_nonneg i0).symm))⟩
    exact ⟨tup2 (congrArg (Value.int .i32) hE.1) (congrArg (Value.int .i64) hE.2), hb⟩
  · intro h2
    replace h2 : 4 ≤ (s).length := by omega
    refine L_mv (L_want (by kernel_rfl) (L_mv (L_want (by kernel_rfl) (L_slen 9 s rfl Try.underlying9 (by kernel_rfl) (L_want (by kernel_rfl) (L_cmp .i64 (((s).length : Nat) : Int) ((6 : Nat) : Int) (6 < (s).length) rfl (cmpN_gt ((s).length) 6) (by kernel_rfl) (by kernel_rfl) ?_ ?_))))))
    · intro h3
      replace h3 : 6 < (s).length := by omega
      refine L_pickF (by kernel_rfl) (L_nil (thenQ_normal (W_true (by kernel_rfl) (W_seq (W_region (L_as (L_as (L_nil (thenQ_normal (W_ret (thenQ_ret ?_)))))))))))
      refine end_ret [.tmp 2, .tmp 3] [(.int .i32 0), (.int .i64 40)] rfl rfl ⟨by kernel_rfl, by kernel_rfl, trivial⟩ ?_
      have hE : ((0 : Int) = (hexF s).1) ∧ ((40 : Int) = (hexF s).2) := ⟨(by first | (exfalso; omega) | (rw [hexF_len (by omega)]; done) | (rw [hexF_zero (by omega) (by assumption) (by omega)]; done) | (rw [hexF_bad i3 (by assumption) (by omega)]; done) | (rw [hexF_big (hexV_end i3 (by omega)) (by omega)]; done) | (rw [hexF_ok (hexV_end i3 (by omega)) (by omega) (by omega) (by omega) (.inl (by omega))]; first | done | exact (Int.toNat_of_nonneg i0).symm) | (rw [hexF_ok (hexV_end i3 (by omega)) (by omega) (by omega) (by omega) (.inr ⟨_, by assumption, by omega⟩)]; first | done | exact (Int.toNat_of_nonneg i0).symm)), (by first | (exfalso; omega) | (rw [hexF_len (by omega)]; done) | (rw [hexF_zero (by omega) (by assumption) (by omega)]; done) | (rw [hexF_bad i3 (by assumption) (by omega)]; done) | (rw [hexF_big (hexV_end i3 (by omega)) (by omega)]; done) | (rw [hexF_ok (hexV_end i3 (by omega)) (by omega) (by omega) (by omega) (.inl (by omega))]; first | done | exact (Int.toNat_of_nonneg i0).symm) | (rw [hexF_ok (hexV_end i3 (by omega)) (by omega) (by omega) (by omega) (.inr ⟨_, by assumption, by omega⟩)]; first | done | exact (Int.toNat_of_nonneg i0).symm))⟩
      exact ⟨tup2 (congrArg (Value.int .i32) hE.1) (congrArg (Value.int .i64) hE.2), hb⟩
    · intro h4
      replace h4 : (s).length ≤ 6 := by omega
      refine L_pickF (by kernel_rfl) (L_nil (thenQ_normal (W_false (by kernel_rfl) (W_skip (thenQ_normal (W_seq (W_region (L_as (L_nil (thenQ_normal (W_seq (W_seq (W_region (L_as (L_nil (thenQ_normal (W_block ?_)))))))))))))))))
      refine W_loop (fun m s0 w0 => ∃ (i : Nat) (z : Int), (m = s.length - i) ∧ (s0.ds = []) ∧ (s0.f 0 = (S s)) ∧ (s0.f 4 = (.int .i64 z)) ∧ (s0.f 5 = (.int .i64 ((i : Nat) : Int))) ∧ (Below w.heap.size w w0) ∧ (w.heap.size ≤ w0.heap.size) ∧ (0 ≤ z) ∧ (i ≤ s.length) ∧ (z.toNat < 16 ^ i) ∧ (hexV (s.drop i) z.toNat = hexV s 0)) _ ⟨0, 0, rfl, by kernel_rfl, by kernel_rfl, by kernel_rfl, by kernel_rfl, hb, hs, by omega, by omega, by decide, rfl⟩ ?_
      rintro m5 s6 w7 ⟨i, z, hm, hds, f_0, f_4, f_5, hb, hs, i0, i1, i2, i3⟩
      refine W_set 0 _ f_0 (W_set 4 _ f_4 (W_set 5 _ f_5 ?_))
      clear f_0 f_4 f_5
      have hp5 : i ≤ 5 → z.toNat < 1048576 := pow16 i2
      have hp6 : i ≤ 6 → z.toNat < 16777216 := pow166 i2
      refine W_seq (W_seq (W_region (L_mv (L_mv (L_slen 9 s rfl Try.underlying9 (by kernel_rfl) (L_cmp .i64 ((i : Nat) : Int) (((s).length : Nat) : Int) (i < (s).length) rfl (cmpN_lt i ((s).length)) (by kernel_rfl) (by kernel_rfl) ?_ ?_))))))
      · intro h8
        replace h8 : i < (s).length := by omega
        refine L_nil (thenQ_normal (W_true (by kernel_rfl) (W_skip (thenQ_normal (W_seq (W_block (W_seq (W_region (L_mv (L_mv ?_))))))))))
        have hz := get_some s i (by omega); obtain ⟨c9, hc10⟩ := hz
        have := c9.toNat_lt
        have hdt : digitV ((c9.toNat : Nat) : Int).toNat = digitV c9.toNat := rfl
        have hdr := digitV_range c9.toNat
        have hzz : ∀ q, q = ((z * 16) + (digitV ((c9.toNat : Nat) : Int).toNat)) → 0 ≤ digitV c9.toNat → q.toNat = 16 * z.toNat + (digitV c9.toNat).toNat := fun q h1 h2 => by omega
        refine L_sindex (k := .i64) s i c9 Try.underlying9 hc10 (by kernel_rfl) (by kernel_rfl) (L_call 83 [(.int .u8 ((c9.toNat : Nat) : Int))] (by kernel_rfl) (by kernel_rfl) (c_furrowref04_Digit ((c9.toNat : Nat) : Int) _ (by omega)) ?_)
        rintro _ w11 ⟨rfl, hB12⟩
        replace hb := hb.trans (hB12.mono hs)
        replace hs := Nat.le_trans hs (hB12.size)
        have := digitV_range ((c9.toNat : Nat) : Int).toNat
        refine L_as (L_nil (thenQ_normal (W_seq (W_seq (W_region (L_mv (L_cmp .i64 (digitV ((c9.toNat : Nat) : Int).toNat) 0 ((digitV ((c9.toNat : Nat) : Int).toNat) < 0) rfl (cmp_lt (digitV ((c9.toNat : Nat) : Int).toNat) 0) (by kernel_rfl) (by kernel_rfl) ?_ ?_)))))))
        · intro h14
          replace h14 : (digitV ((c9.toNat : Nat) : Int).toNat) < 0 := by omega
          refine L_nil (thenQ_normal (W_true (by kernel_rfl) (W_seq (W_region (L_as (L_as (L_nil (thenQ_normal (W_ret (thenQ_ret (blkQ_ret (thenQ_ret (thenQ_ret (blkQ_ret (thenQ_ret ?_)))))))))))))))
          refine end_ret [.tmp 2, .tmp 3] [(.int .i32 0), (.int .i64 40)] rfl hds ⟨by kernel_rfl, by kernel_rfl, trivial⟩ ?_
          have hE : ((0 : Int) = (hexF s).1) ∧ ((40 : Int) = (hexF s).2) := ⟨(by first | (exfalso; omega) | (rw [hexF_len (by omega)]; done) | (rw [hexF_zero (by omega) (by assumption) (by omega)]; done) | (rw [hexF_bad i3 (by assumption) (by omega)]; done) | (rw [hexF_big (hexV_end i3 (by omega)) (by omega)]; done) | (rw [hexF_ok (hexV_end i3 (by omega)) (by omega) (by omega) (by omega) (.inl (by omega))]; first | done | exact (Int.toNat_of_nonneg i0).symm) | (rw [hexF_ok (hexV_end i3 (by omega)) (by omega) (by omega) (by omega) (.inr ⟨_, by assumption, by omega⟩)]; first | done | exact (Int.toNat_of_nonneg i0).symm)), (by first | (exfalso; omega) | (rw [hexF_len (by omega)]; done) | (rw [hexF_zero (by omega) (by assumption) (by omega)]; done) | (rw [hexF_bad i3 (by assumption) (by omega)]; done) | (rw [hexF_big (hexV_end i3 (by omega)) (by omega)]; done) | (rw [hexF_ok (hexV_end i3 (by omega)) (by omega) (by omega) (by omega) (.inl (by omega))]; first | done | exact (Int.toNat_of_nonneg i0).symm) | (rw [hexF_ok (hexV_end i3 (by omega)) (by omega) (by omega) (by omega) (.inr ⟨_, by assumption, by omega⟩)]; first | done | exact (Int.toNat_of_nonneg i0).symm))⟩
          exact ⟨tup2 (congrArg (Value.int .i32) hE.1) (congrArg (Value.int .i64) hE.2), hb⟩
        · intro h15
          replace h15 : 0 ≤ (digitV ((c9.toNat : Nat) : Int).toNat) := by omega
          refine L_nil (thenQ_normal (W_false (by kernel_rfl) (W_skip (thenQ_normal (W_region (L_mv (L_arith z 16 (z * 16) rfl (by kernel_rfl) (by kernel_rfl) (wrap_i64 _ (by simp only [arithZ]; omega) (by simp only [arithZ]; omega)) (L_mv (L_arith (z * 16) (digitV ((c9.toNat : Nat) : Int).toNat) ((z * 16) + (digitV ((c9.toNat : Nat) : Int).toNat)) rfl (by kernel_rfl) (by kernel_rfl) (wrap_i64 _ (by simp only [arithZ]; omega) (by simp only [arithZ]; omega)) (L_as (L_nil (blkQ_normal (thenQ_normal (W_region (L_mv (L_addN i 1 (by omega) (by kernel_rfl) (by kernel_rfl) (L_as (L_nil ?_))))))))))))))))))
          refine thenQ_normal ⟨_, ?_, (i + 1), ((z * 16) + (digitV ((c9.toNat : Nat) : Int).toNat)), rfl, hds, by kernel_rfl, by kernel_rfl, by kernel_rfl, hb, hs, ?_, ?_, ?_, ?_⟩
          · omega
          · omega
          · omega
          · rw [hzz _ rfl (by omega)]; exact pow16s i2 (by omega)
          · rw [hzz _ rfl (by omega)]; exact hexV_step i3 (by assumption) (by omega)
      · intro h16
        replace h16 : (s).length ≤ i := by omega
        refine L_nil (thenQ_normal (W_false (by kernel_rfl) (W_exit (thenQ_exit (thenQ_exit (blkQ_exit (thenQ_normal (W_seq (W_seq (W_region (L_mv (L_cmp .i64 z 1114111 (1114111 < z) rfl (cmp_gt z 1114111) (by kernel_rfl) (by kernel_rfl) ?_ ?_))))))))))))
        · intro h17
          replace h17 : 1114111 < z := by omega
          refine L_mv (L_skip (by kernel_rfl) (L_skip (by kernel_rfl) (L_skip (by kernel_rfl) (L_skip (by kernel_rfl) (L_skip (by kernel_rfl) (L_skip (by kernel_rfl) (L_skip (by kernel_rfl) (L_skip (by kernel_rfl) (L_pickT (by kernel_rfl) (L_nil (thenQ_normal (W_true (by kernel_rfl) (W_seq (W_region (L_as (L_as (L_nil (thenQ_normal (W_ret (thenQ_ret ?_))))))))))))))))))))
          refine end_ret [.tmp 2, .tmp 3] [(.int .i32 0), (.int .i64 40)] rfl hds ⟨by kernel_rfl, by kernel_rfl, trivial⟩ ?_
          have hE : ((0 : Int) = (hexF s).1) ∧ ((40 : Int) = (hexF s).2) := ⟨(by first | (exfalso; omega) | (rw [hexF_len (by omega)]; done) | (rw [hexF_zero (by omega) (by assumption) (by omega)]; done) | (rw [hexF_bad i3 (by assumption) (by omega)]; done) | (rw [hexF_big (hexV_end i3 (by omega)) (by omega)]; done) | (rw [hexF_ok (hexV_end i3 (by omega)) (by omega) (by omega) (by omega) (.inl (by omega))]; first | done | exact (Int.toNat_of_nonneg i0).symm) | (rw [hexF_ok (hexV_end i3 (by omega)) (by omega) (by omega) (by omega) (.inr ⟨_, by assumption, by omega⟩)]; first | done | exact (Int.toNat_of_nonneg i0).symm)), (by first | (exfalso; omega) | (rw [hexF_len (by omega)]; done) | (rw [hexF_zero (by omega) (by assumption) (by omega)]; done) | (rw [hexF_bad i3 (by assumption) (by omega)]; done) | (rw [hexF_big (hexV_end i3 (by omega)) (by omega)]; done) | (rw [hexF_ok (hexV_end i3 (by omega)) (by omega) (by omega) (by omega) (.inl (by omega))]; first | done | exact (Int.toNat_of_nonneg i0).symm) | (rw [hexF_ok (hexV_end i3 (by omega)) (by omega) (by omega) (by omega) (.inr ⟨_, by assumption, by omega⟩)]; first | done | exact (Int.toNat_of_nonneg i0).symm))⟩
          exact ⟨tup2 (congrArg (Value.int .i32) hE.1) (congrArg (Value.int .i64) hE.2), hb⟩
        · intro h18
          replace h18 : z ≤ 1114111 := by omega
          refine L_mv (L_want (by kernel_rfl) (L_mv (L_want (by kernel_rfl) (L_slen 9 s rfl Try.underlying9 (by kernel_rfl) (L_want (by kernel_rfl) (L_cmp .i64 (((s).length : Nat) : Int) ((4 : Nat) : Int) (4 < (s).length) rfl (cmpN_gt ((s).length) 4) (by kernel_rfl) (by kernel_rfl) ?_ ?_))))))
          · intro h19
            replace h19 : 4 < (s).length := by omega
            refine L_want (by kernel_rfl) (L_mv (L_want (by kernel_rfl) (L_mv (L_want (by kernel_rfl) ?_))))
            have hz := get_some s 0 (by omega); obtain ⟨c20, hc21⟩ := hz
            have := c20.toNat_lt
            have hdt : digitV ((c20.toNat : Nat) : Int).toNat = digitV c20.toNat := rfl
            have hdr := digitV_range c20.toNat
            have hzz : ∀ q, q = ((z * 16) + (digitV ((c20.toNat : Nat) : Int).toNat)) → 0 ≤ digitV c20.toNat → q.toNat = 16 * z.toNat + (digitV c20.toNat).toNat := fun q h1 h2 => by omega
            refine L_sindex (k := .i64) s 0 c20 Try.underlying9 hc21 (by kernel_rfl) (by kernel_rfl) (L_want (by kernel_rfl) (L_cmp .u8 ((c20.toNat : Nat) : Int) ((48 : Nat) : Int) (c20.toNat = 48) rfl (cmpN_eq c20.toNat 48) (by kernel_rfl) (by kernel_rfl) ?_ ?_))
            · intro h22
              replace h22 : c20.toNat = 48 := by omega
              refine L_want (by kernel_rfl) (L_pickT (by kernel_rfl) (L_pickF (by kernel_rfl) (L_nil (thenQ_normal (W_true (by kernel_rfl) (W_seq (W_region (L_as (L_as (L_nil (thenQ_normal (W_ret (thenQ_ret ?_)))))))))))))
              refine end_ret [.tmp 2, .tmp 3] [(.int .i32 0), (.int .i64 40)] rfl hds ⟨by kernel_rfl, by kernel_rfl, trivial⟩ ?_
              have hE : ((0 : Int) = (hexF s).1) ∧ ((40 : Int) = (hexF s).2) := ⟨(by first | (exfalso; omega) | (rw [hexF_len (by omega)]; done) | (rw [hexF_zero (by omega) (by assumption) (by omega)]; done) | (rw [hexF_bad i3 (by assumption) (by omega)]; done) | (rw [hexF_big (hexV_end i3 (by omega)) (by omega)]; done) | (rw [hexF_ok (hexV_end i3 (by omega)) (by omega) (by omega) (by omega) (.inl (by omega))]; first | done | exact (Int.toNat_of_nonneg i0).symm) | (rw [hexF_ok (hexV_end i3 (by omega)) (by omega) (by omega) (by omega) (.inr ⟨_, by assumption, by omega⟩)]; first | done | exact (Int.toNat_of_nonneg i0).symm)), (by first | (exfalso; omega) | (rw [hexF_len (by omega)]; done) | (rw [hexF_zero (by omega) (by assumption) (by omega)]; done) | (rw [hexF_bad i3 (by assumption) (by omega)]; done) | (rw [hexF_big (hexV_end i3 (by omega)) (by omega)]; done) | (rw [hexF_ok (hexV_end i3 (by omega)) (by omega) (by omega) (by omega) (.inl (by omega))]; first | done | exact (Int.toNat_of_nonneg i0).symm) | (rw [hexF_ok (hexV_end i3 (by omega)) (by omega) (by omega) (by omega) (.inr ⟨_, by assumption, by omega⟩)]; first | done | exact (Int.toNat_of_nonneg i0).symm))⟩
              exact ⟨tup2 (congrArg (Value.int .i32) hE.1) (congrArg (Value.int .i64) hE.2), hb⟩
            · intro h23
              replace h23 : c20.toNat ≠ 48 := by omega
              refine L_want (by kernel_rfl) (L_pickT (by kernel_rfl) (L_pickF (by kernel_rfl) (L_nil (thenQ_normal (W_false (by kernel_rfl) (W_skip (thenQ_normal (W_seq (W_region (L_mv (L_conv (k := .i64) z z (by kernel_rfl) Try.underlying21 (by kernel_rfl) (wrap_i32 _ (by omega) (by omega)) (L_as (L_as (L_nil (thenQ_normal (W_ret ?_))))))))))))))))
              refine end_ret [.tmp 2, .tmp 3] [(.int .i32 z), (.int .i64 0)] rfl hds ⟨by kernel_rfl, by kernel_rfl, trivial⟩ ?_
              have hE : ((z : Int) = (hexF s).1) ∧ ((0 : Int) = (hexF s).2) := ⟨(by first | (exfalso; omega) | (rw [hexF_len (by omega)]; done) | (rw [hexF_zero (by omega) (by assumption) (by omega)]; done) | (rw [hexF_bad i3 (by assumption) (by omega)]; done) | (rw [hexF_big (hexV_end i3 (by omega)) (by omega)]; done) | (rw [hexF_ok (hexV_end i3 (by omega)) (by omega) (by omega) (by omega) (.inl (by omega))]; first | done | exact (Int.toNat_of_nonneg i0).symm) | (rw [hexF_ok (hexV_end i3 (by omega)) (by omega) (by omega) (by omega) (.inr ⟨_, by assumption, by omega⟩)]; first | done | exact (Int.toNat_of_nonneg i0).symm)), (by first | (exfalso; omega) | (rw [hexF_len (by omega)]; done) | (rw [hexF_zero (by omega) (by assumption) (by omega)]; done) | (rw [hexF_bad i3 (by assumption) (by omega)]; done) | (rw [hexF_big (hexV_end i3 (by omega)) (by omega)]; done) | (rw [hexF_ok (hexV_end i3 (by omega)) (by omega) (by omega) (by omega) (.inl (by omega))]; first | done | exact (Int.toNat_of_nonneg i0).symm) | (rw [hexF_ok (hexV_end i3 (by omega)) (by omega) (by omega) (by omega) (.inr ⟨_, by assumption, by omega⟩)]; first | done | exact (Int.toNat_of_nonneg i0).symm))⟩
              exact ⟨tup2 (congrArg (Value.int .i32) hE.1) (congrArg (Value.int .i64) hE.2), hb⟩
          · intro h24
            replace h24 : (s).length ≤ 4 := by omega
            refine L_want (by kernel_rfl) (L_mv (L_skip (by kernel_rfl) (L_skip (by kernel_rfl) (L_skip (by kernel_rfl) (L_want (by kernel_rfl) (L_pickF (by kernel_rfl) (L_pickF (by kernel_rfl) (L_nil (thenQ_normal (W_false (by kernel_rfl) (W_skip (thenQ_normal (W_seq (W_region (L_mv (L_conv (k := .i64) z z (by kernel_rfl) Try.underlying21 (by kernel_rfl) (wrap_i32 _ (by omega) (by omega)) (L_as (L_as (L_nil (thenQ_normal (W_ret ?_)))))))))))))))))))))
            refine end_ret [.tmp 2, .tmp 3] [(.int .i32 z), (.int .i64 0)] rfl hds ⟨by kernel_rfl, by kernel_rfl, trivial⟩ ?_
            have hE : ((z : Int) = (hexF s).1) ∧ ((0 : Int) = (hexF s).2) := ⟨(by first | (exfalso; omega) | (rw [hexF_len (by omega)]; done) | (rw [hexF_zero (by omega) (by assumption) (by omega)]; done) | (rw [hexF_bad i3 (by assumption) (by omega)]; done) | (rw [hexF_big (hexV_end i3 (by omega)) (by omega)]; done) | (rw [hexF_ok (hexV_end i3 (by omega)) (by omega) (by omega) (by omega) (.inl (by omega))]; first | done | exact (Int.toNat_of_nonneg i0).symm) | (rw [hexF_ok (hexV_end i3 (by omega)) (by omega) (by omega) (by omega) (.inr ⟨_, by assumption, by omega⟩)]; first | done | exact (Int.toNat_of_nonneg i0).symm)), (by first | (exfalso; omega) | (rw [hexF_len (by omega)]; done) | (rw [hexF_zero (by omega) (by assumption) (by omega)]; done) | (rw [hexF_bad i3 (by assumption) (by omega)]; done) | (rw [hexF_big (hexV_end i3 (by omega)) (by omega)]; done) | (rw [hexF_ok (hexV_end i3 (by omega)) (by omega) (by omega) (by omega) (.inl (by omega))]; first | done | exact (Int.toNat_of_nonneg i0).symm) | (rw [hexF_ok (hexV_end i3 (by omega)) (by omega) (by omega) (by omega) (.inr ⟨_, by assumption, by omega⟩)]; first | done | exact (Int.toNat_of_nonneg i0).symm))⟩
            exact ⟨tup2 (congrArg (Value.int .i32) hE.1) (congrArg (Value.int .i64) hE.2), hb⟩

set_option maxHeartbeats 4000000 in
set_option maxRecDepth 100000 in
theorem c_furrowref04_Show (r : Int) (w : World) :
    Calls Try.prog 34 #[(.int .i32 r)] w (Ret fun v w' => v = (.tuple #[(S ((showF r).1)), (.int .i64 ((showF r).2))]) ∧ Below w.heap.size w w') := by
  refine enter (args := [(.int .i32 r)]) Try.func34 rfl (by kernel_rfl : _ = 31) (by kernel_rfl) ?_
  have hb := Below.refl w.heap.size w
  have hs : w.heap.size ≤ w.heap.size := Nat.le_refl _
  refine W_seq (W_region (L_as (L_as (L_nil (thenQ_normal (W_seq (W_seq (W_region (L_mv (L_cmp .i32 r 0 (r < 0) rfl (cmp_lt r 0) (by kernel_rfl) (by kernel_rfl) ?_ ?_))))))))))
  · intro h1
    replace h1 : r < 0 := by omega
    refine L_mv (L_skip (by kernel_rfl) (L_skip (by kernel_rfl) (L_pickT (by kernel_rfl) (L_nil (thenQ_normal (W_true (by kernel_rfl) (W_seq (W_region (L_as (L_as (L_nil (thenQ_normal (W_ret (thenQ_ret ?_))))))))))))))
    refine end_ret [.tmp 2, .tmp 3] [(S ([] : List UInt8)), (.int .i64 40)] rfl rfl ⟨by kernel_rfl, by kernel_rfl, trivial⟩ ?_
    have hE : (([] : List UInt8) = (showF r).1) ∧ ((40 : Int) = (showF r).2) := ⟨(by first | (rw [showF_bad (by omega)]; done) | (rw [showF_ok (by omega) (by omega)]; first | done | exact show_end i1 i2 i3 (by omega) (by omega))), (by first | (rw [showF_bad (by omega)]; done) | (rw [showF_ok (by omega) (by omega)]; first | done | exact show_end i1 i2 i3 (by omega) (by omega)))⟩
    exact ⟨tup2 (congrArg S hE.1) (congrArg (Value.int .i64) hE.2), hb⟩
  · intro h2
    replace h2 : 0 ≤ r := by omega
    refine L_mv (L_want (by kernel_rfl) (L_mv (L_want (by kernel_rfl) (L_cmp .i32 r 1114111 (1114111 < r) rfl (cmp_gt r 1114111) (by kernel_rfl) (by kernel_rfl) ?_ ?_))))
    · intro h3
      replace h3 : 1114111 < r := by omega
      refine L_pickF (by kernel_rfl) (L_nil (thenQ_normal (W_true (by kernel_rfl) (W_seq (W_region (L_as (L_as (L_nil (thenQ_normal (W_ret (thenQ_ret ?_)))))))))))
      refine end_ret [.tmp 2, .tmp 3] [(S ([] : List UInt8)), (.int .i64 40)] rfl rfl ⟨by kernel_rfl, by kernel_rfl, trivial⟩ ?_
      have hE : (([] : List UInt8) = (showF r).1) ∧ ((40 : Int) = (showF r).2) := ⟨(by first | (rw [showF_bad (by omega)]; done) | (rw [showF_ok (by omega) (by omega)]; first | done | exact show_end i1 i2 i3 (by omega) (by omega))), (by first | (rw [showF_bad (by omega)]; done) | (rw [showF_ok (by omega) (by omega)]; first | done | exact show_end i1 i2 i3 (by omega) (by omega)))⟩
      exact ⟨tup2 (congrArg S hE.1) (congrArg (Value.int .i64) hE.2), hb⟩
    · intro h4
      replace h4 : r ≤ 1114111 := by omega
      refine L_pickF (by kernel_rfl) (L_nil (thenQ_normal (W_false (by kernel_rfl) (W_skip (thenQ_normal (W_seq (W_region (L_as (L_nil (thenQ_normal (W_seq (W_region (L_mv (L_conv (k := .i32) r r (by kernel_rfl) Try.underlying3 (by kernel_rfl) (wrap_i64 _ (by omega) (by omega)) (L_as (L_nil (thenQ_normal (W_seq (W_block ?_)))))))))))))))))))
      refine W_loop (fun m s0 w0 => ∃ (acc : List UInt8) (z : Int), (m = 10 - acc.length) ∧ (s0.ds = []) ∧ (s0.f 2 = (S ([] : List UInt8))) ∧ (s0.f 3 = (.int .i64 0)) ∧ (s0.f 4 = (S acc)) ∧ (s0.f 5 = (.int .i64 z)) ∧ (Below w.heap.size w w0) ∧ (w.heap.size ≤ w0.heap.size) ∧ (acc.length ≤ cntD r.toNat) ∧ (z = ((r.toNat / 16 ^ acc.length : Nat) : Int)) ∧ (acc = digsD r.toNat acc.length)) _ ⟨([] : List UInt8), r, rfl, by kernel_rfl, by kernel_rfl, by kernel_rfl, by kernel_rfl, by kernel_rfl, hb, hs, Nat.zero_le _, by simp; omega, rfl⟩ ?_
      rintro m5 s6 w7 ⟨acc, z, hm, hds, f_2, f_3, f_4, f_5, hb, hs, i1, i2, i3⟩
      refine W_set 2 _ f_2 (W_set 3 _ f_3 (W_set 4 _ f_4 (W_set 5 _ f_5 ?_)))
      clear f_2 f_3 f_4 f_5
      have hcd := cntD_le r.toNat
      have hfz := show_facts i1 i2 (by omega)
      refine W_seq (W_seq (W_region (L_mv (L_cmp .i64 z 0 (0 < z) rfl (cmp_gt z 0) (by kernel_rfl) (by kernel_rfl) ?_ ?_))))
      · intro h8
        replace h8 : 0 < z := by omega
        refine L_mv (L_skip (by kernel_rfl) (L_skip (by kernel_rfl) (L_skip (by kernel_rfl) (L_pickT (by kernel_rfl) (L_nil (thenQ_normal (W_true (by kernel_rfl) (W_skip (thenQ_normal (W_block (W_seq (W_region (L_mv (L_rem (k := .i64) z 16 (by first | omega | (rw [show (([48, 49, 50, 51, 52, 53, 54, 55, 56, 57, 65, 66, 67, 68, 69, 70] : List UInt8)).length = 16 from rfl]; omega)) (by first | omega | (rw [show (([48, 49, 50, 51, 52, 53, 54, 55, 56, 57, 65, 66, 67, 68, 69, 70] : List UInt8)).length = 16 from rfl]; omega)) (by kernel_rfl) (by kernel_rfl) ?_))))))))))))))
        have hz := get_some ([48, 49, 50, 51, 52, 53, 54, 55, 56, 57, 65, 66, 67, 68, 69, 70] : List UInt8) ((z % 16).toNat) (by first | omega | (rw [show (([48, 49, 50, 51, 52, 53, 54, 55, 56, 57, 65, 66, 67, 68, 69, 70] : List UInt8)).length = 16 from rfl]; omega)); obtain ⟨c9, hc10⟩ := hz
        have := c9.toNat_lt
        refine L_sindexZ (k := .i64) ([48, 49, 50, 51, 52, 53, 54, 55, 56, 57, 65, 66, 67, 68, 69, 70] : List UInt8) (z % 16) ((z % 16).toNat) c9 (by omega) Try.underlying9 hc10 (by kernel_rfl) (by kernel_rfl) (L_new (fun b => .slice (some ⟨b, 0, none⟩) 1 1) (.cells [(.int .u8 ((c9.toNat : Nat) : Int))].toArray 5 (0, 0)) (by kernel_rfl) (by kernel_rfl) ?_)
        intro b11 w12 hN13
        have g_b11 : w.heap.size ≤ b11 := by rw [hN13.num]; exact hs
        replace hb := hb.trans (hN13.below.mono hs)
        replace hs := Nat.le_trans hs (hN13.below.size)
        have r_b11 : Row w12 w.heap.size 5 1 encU8 (.slice (some ⟨b11, 0, none⟩) 1 1) ([((c9.toNat : Nat) : Int)] : List (Int)) := Row.made ([((c9.toNat : Nat) : Int)] : List (Int)) hN13 g_b11 rfl rfl (by first | decide | (simp; done))
        refine L_bytesStr (.slice (some ⟨b11, 0, none⟩) 1 1) ([((c9.toNat : Nat) : Int)] : List (Int)) Try.underlying143 Try.underlying5 Try.underlying9 (by kernel_rfl) r_b11.rd (L_mv (L_sadd (bytesI ([((c9.toNat : Nat) : Int)] : List (Int))) acc (by first | omega | (simp only [List.length_append, List.length_cons, List.length_nil]; omega) | (simp only [bytesI, List.length_map, List.length_append, List.length_cons, List.length_nil]; omega)) (by kernel_rfl) (by kernel_rfl) (L_as (L_nil (thenQ_normal (W_region (L_mv (L_quo (k := .i64) z 16 (z / 16) (by first | omega | (rw [show (([48, 49, 50, 51, 52, 53, 54, 55, 56, 57, 65, 66, 67, 68, 69, 70] : List UInt8)).length = 16 from rfl]; omega)) (by first | omega | (rw [show (([48, 49, 50, 51, 52, 53, 54, 55, 56, 57, 65, 66, 67, 68, 69, 70] : List UInt8)).length = 16 from rfl]; omega)) (by kernel_rfl) (by kernel_rfl) (wrap_i64 _ (by omega) (by omega)) (L_as (L_nil (blkQ_normal ?_)))))))))))
        refine thenQ_normal ⟨_, ?_, ((bytesI ([((c9.toNat : Nat) : Int)] : List (Int))) ++ acc), (z / 16), rfl, hds, by kernel_rfl, by kernel_rfl, by kernel_rfl, by kernel_rfl, hb, hs, ?_, ?_, ?_⟩
        · have hst := show_step i2 i3 (by assumption); omega
        · have hst := show_step i2 i3 (by assumption); omega
        · exact (show_step i2 i3 (by assumption)).2.1
        · exact (show_step i2 i3 (by assumption)).2.2
      · intro h14
        replace h14 : z ≤ 0 := by omega
        refine L_mv (L_want (by kernel_rfl) (L_mv (L_want (by kernel_rfl) (L_slen 9 acc rfl Try.underlying9 (by kernel_rfl) (L_want (by kernel_rfl) (L_cmp .i64 (((acc).length : Nat) : Int) ((4 : Nat) : Int) ((acc).length < 4) rfl (cmpN_lt ((acc).length) 4) (by kernel_rfl) (by kernel_rfl) ?_ ?_))))))
        · intro h15
          replace h15 : (acc).length < 4 := by omega
          refine L_pickF (by kernel_rfl) (L_nil (thenQ_normal (W_true (by kernel_rfl) (W_skip (thenQ_normal (W_block (W_seq (W_region (L_mv (L_rem (k := .i64) z 16 (by first | omega | (rw [show (([48, 49, 50, 51, 52, 53, 54, 55, 56, 57, 65, 66, 67, 68, 69, 70] : List UInt8)).length = 16 from rfl]; omega)) (by first | omega | (rw [show (([48, 49, 50, 51, 52, 53, 54, 55, 56, 57, 65, 66, 67, 68, 69, 70] : List UInt8)).length = 16 from rfl]; omega)) (by kernel_rfl) (by kernel_rfl) ?_))))))))))
          have hz := get_some ([48, 49, 50, 51, 52, 53, 54, 55, 56, 57, 65, 66, 67, 68, 69, 70] : List UInt8) ((z % 16).toNat) (by first | omega | (rw [show (([48, 49, 50, 51, 52, 53, 54, 55, 56, 57, 65, 66, 67, 68, 69, 70] : List UInt8)).length = 16 from rfl]; omega)); obtain ⟨c16, hc17⟩ := hz
          have := c16.toNat_lt
          refine L_sindexZ (k := .i64) ([48, 49, 50, 51, 52, 53, 54, 55, 56, 57, 65, 66, 67, 68, 69, 70] : List UInt8) (z % 16) ((z % 16).toNat) c16 (by omega) Try.underlying9 hc17 (by kernel_rfl) (by kernel_rfl) (L_new (fun b => .slice (some ⟨b, 0, none⟩) 1 1) (.cells [(.int .u8 ((c16.toNat : Nat) : Int))].toArray 5 (0, 0)) (by kernel_rfl) (by kernel_rfl) ?_)
          intro b18 w19 hN20
          have g_b18 : w.heap.size ≤ b18 := by rw [hN20.num]; exact hs
          replace hb := hb.trans (hN20.below.mono hs)
          replace hs := Nat.le_trans hs (hN20.below.size)
          have r_b18 : Row w19 w.heap.size 5 1 encU8 (.slice (some ⟨b18, 0, none⟩) 1 1) ([((c16.toNat : Nat) : Int)] : List (Int)) := Row.made ([((c16.toNat : Nat) : Int)] : List (Int)) hN20 g_b18 rfl rfl (by first | decide | (simp; done))
          refine L_bytesStr (.slice (some ⟨b18, 0, none⟩) 1 1) ([((c16.toNat : Nat) : Int)] : List (Int)) Try.underlying143 Try.underlying5 Try.underlying9 (by kernel_rfl) r_b18.rd (L_mv (L_sadd (bytesI ([((c16.toNat : Nat) : Int)] : List (Int))) acc (by first | omega | (simp only [List.length_append, List.length_cons, List.length_nil]; omega) | (simp only [bytesI, List.length_map, List.length_append, List.length_cons, List.length_nil]; omega)) (by kernel_rfl) (by kernel_rfl) (L_as (L_nil (thenQ_normal (W_region (L_mv (L_quo (k := .i64) z 16 (z / 16) (by first | omega | (rw [show (([48, 49, 50, 51, 52, 53, 54, 55, 56, 57, 65, 66, 67, 68, 69, 70] : List UInt8)).length = 16 from rfl]; omega)) (by first | omega | (rw [show (([48, 49, 50, 51, 52, 53, 54, 55, 56, 57, 65, 66, 67, 68, 69, 70] : List UInt8)).length = 16 from rfl]; omega)) (by kernel_rfl) (by kernel_rfl) (wrap_i64 _ (by omega) (by omega)) (L_as (L_nil (blkQ_normal ?_)))))))))))
          refine thenQ_normal ⟨_, ?_, ((bytesI ([((c16.toNat : Nat) : Int)] : List (Int))) ++ acc), (z / 16), rfl, hds, by kernel_rfl, by kernel_rfl, by kernel_rfl, by kernel_rfl, hb, hs, ?_, ?_, ?_⟩
          · have hst := show_step i2 i3 (by assumption); omega
          · have hst := show_step i2 i3 (by assumption); omega
          · exact (show_step i2 i3 (by assumption)).2.1
          · exact (show_step i2 i3 (by assumption)).2.2
        · intro h21
          replace h21 : 4 ≤ (acc).length := by omega
          refine L_pickF (by kernel_rfl) (L_nil (thenQ_normal (W_false (by kernel_rfl) (W_exit (thenQ_exit (thenQ_exit (blkQ_exit (thenQ_normal (W_seq (W_region (L_mv (L_as (L_as (L_nil (thenQ_normal (W_ret ?_))))))))))))))))
          refine end_ret [.tmp 2, .tmp 3] [(S acc), (.int .i64 0)] rfl hds ⟨by kernel_rfl, by kernel_rfl, trivial⟩ ?_
          have hE : (acc = (showF r).1) ∧ ((0 : Int) = (showF r).2) := ⟨(by first | (rw [showF_bad (by omega)]; done) | (rw [showF_ok (by omega) (by omega)]; first | done | exact show_end i1 i2 i3 (by omega) (by omega))), (by first | (rw [showF_bad (by omega)]; done) | (rw [showF_ok (by omega) (by omega)]; first | done | exact show_end i1 i2 i3 (by omega) (by omega)))⟩
          exact ⟨tup2 (congrArg S hE.1) (congrArg (Value.int .i64) hE.2), hb⟩

set_option maxHeartbeats 4000000 in
set_option maxRecDepth 100000 in
theorem c_furrowref04_ShowSpan (lo : Int) (hi : Int) (w : World) :
    Calls Try.prog 40 #[(Value.agg #[(.int .i32 lo), (.int .i32 hi)])] w (Ret fun v w' => v = (.tuple #[(S ((showSpanF lo hi).1)), (.int .i64 ((showSpanF lo hi).2))]) ∧ Below w.heap.size w w') := by
  refine enter (args := [(Value.agg #[(.int .i32 lo), (.int .i32 hi)])]) Try.func40 rfl (by kernel_rfl : _ = 33) (by kernel_rfl) ?_
  have hb := Below.refl w.heap.size w
  have hs : w.heap.size ≤ w.heap.size := Nat.le_refl _
  have hl1 := showF_len lo
  have hl2 := showF_len hi
  refine W_seq (W_region (L_new (fun b => .pointer (some ⟨b, 0, none⟩)) (.cells [(.int .i32 lo), (.int .i32 hi)].toArray 29 (0, 0)) (by kernel_rfl) (by kernel_rfl) ?_))
  intro b1 w2 hN3
  have g_x1 : w.heap.size ≤ b1 := by rw [hN3.num]; exact hs
  replace hb := hb.trans (hN3.below.mono hs)
  replace hs := Nat.le_trans hs (hN3.below.size)
  have o_x1 := hN3.here
  refine L_as (L_as (L_nil (thenQ_normal (W_seq (W_seq (W_region (L_loadA b1 0 [(.int .i32 lo), (.int .i32 hi)] (by kernel_rfl) (by kernel_rfl) (by kernel_rfl) (cells_at o_x1 0 (by kernel_rfl)) (L_call 36 [(Value.agg #[(.int .i32 lo), (.int .i32 hi)])] (by kernel_rfl) (by kernel_rfl) (c_furrowref04_May lo hi _ ) ?_))))))))
  rintro _ w4 ⟨rfl, hB5⟩
  replace hb := hb.trans (hB5.mono hs)
  replace hs := Nat.le_trans hs (hB5.size)
  replace o_x1 := obj_below o_x1 hB5
  refine put_split (mayF lo hi) ?_ ?_
  · intro h7
    refine L_not true (by kernel_rfl) (L_nil (thenQ_normal (W_false (by kernel_rfl) (W_skip (thenQ_normal (W_seq (W_region (L_run (.pointer (some ⟨b1, 0, none⟩)) (by kernel_rfl) (by kernel_rfl) (L_load b1 0 (.int .i32 lo) (by kernel_rfl) (by kernel_rfl) (cell_obj o_x1 rfl) (L_call 34 [(.int .i32 lo)] (by kernel_rfl) (by kernel_rfl) (c_furrowref04_Show lo _ ) ?_))))))))))
    rintro _ w8 ⟨rfl, hB9⟩
    replace hb := hb.trans (hB9.mono hs)
    replace hs := Nat.le_trans hs (hB9.size)
    replace o_x1 := obj_below o_x1 hB9
    refine L_mv (L_run (S ((showF lo).1)) (by kernel_rfl) (by kernel_rfl) (L_run (.int .i64 ((showF lo).2)) (by kernel_rfl) (by kernel_rfl) (L_as (L_as (L_nil (thenQ_normal (W_seq (W_region (L_run (.pointer (some ⟨b1, 1, none⟩)) (by kernel_rfl) (by kernel_rfl) (L_load b1 1 (.int .i32 hi) (by kernel_rfl) (by kernel_rfl) (cell_obj o_x1 rfl) (L_call 34 [(.int .i32 hi)] (by kernel_rfl) (by kernel_rfl) (c_furrowref04_Show hi _ ) ?_)))))))))))
    rintro _ w11 ⟨rfl, hB12⟩
    replace hb := hb.trans (hB12.mono hs)
    replace hs := Nat.le_trans hs (hB12.size)
    replace o_x1 := obj_below o_x1 hB12
    refine L_mv (L_run (S ((showF hi).1)) (by kernel_rfl) (by kernel_rfl) (L_run (.int .i64 ((showF hi).2)) (by kernel_rfl) (by kernel_rfl) (L_as (L_as (L_nil (thenQ_normal (W_seq (W_seq (W_region (L_run (.pointer (some ⟨b1, 0, none⟩)) (by kernel_rfl) (by kernel_rfl) (L_load b1 0 (.int .i32 lo) (by kernel_rfl) (by kernel_rfl) (cell_obj o_x1 rfl) (L_run (.pointer (some ⟨b1, 1, none⟩)) (by kernel_rfl) (by kernel_rfl) (L_load b1 1 (.int .i32 hi) (by kernel_rfl) (by kernel_rfl) (cell_obj o_x1 rfl) (L_cmp .i32 lo hi (lo = hi) rfl (cmp_eq lo hi) (by kernel_rfl) (by kernel_rfl) ?_ ?_))))))))))))))
    · intro h14
      replace h14 : lo = hi := by omega
      refine L_nil (thenQ_normal (W_true (by kernel_rfl) (W_seq (W_region (L_mv (L_as (L_as (L_nil (thenQ_normal (W_ret (thenQ_ret ?_)))))))))))
      refine end_ret [.tmp 2, .tmp 3] [(S ((showF lo).1)), (.int .i64 0)] rfl rfl ⟨by kernel_rfl, by kernel_rfl, trivial⟩ ?_
      have hE : ((showF lo).1 = (showSpanF lo hi).1) ∧ ((0 : Int) = (showSpanF lo hi).2) := ⟨(by first | (rw [showSpan_bad (by assumption)]; done) | (rw [showSpan_one (by assumption) (by assumption)]; done) | (rw [showSpan_two (by assumption) (by assumption)]; done)), (by first | (rw [showSpan_bad (by assumption)]; done) | (rw [showSpan_one (by assumption) (by assumption)]; done) | (rw [showSpan_two (by assumption) (by assumption)]; done))⟩
      exact ⟨tup2 (congrArg S hE.1) (congrArg (Value.int .i64) hE.2), hb⟩
    · intro h15
      replace h15 : lo ≠ hi := by omega
      refine L_nil (thenQ_normal (W_false (by kernel_rfl) (W_skip (thenQ_normal (W_seq (W_region (L_mv (L_sadd ((showF lo).1) ([46, 46] : List UInt8) (by first | omega | (simp only [List.length_append, List.length_cons, List.length_nil]; omega) | (simp only [bytesI, List.length_map, List.length_append, List.length_cons, List.length_nil]; omega)) (by kernel_rfl) (by kernel_rfl) (L_mv (L_sadd ((showF lo).1 ++ ([46, 46] : List UInt8)) ((showF hi).1) (by first | omega | (simp only [List.length_append, List.length_cons, List.length_nil]; omega) | (simp only [bytesI, List.length_map, List.length_append, List.length_cons, List.length_nil]; omega)) (by kernel_rfl) (by kernel_rfl) (L_as (L_as (L_nil (thenQ_normal (W_ret ?_)))))))))))))))
      refine end_ret [.tmp 2, .tmp 3] [(S (((showF lo).1 ++ ([46, 46] : List UInt8)) ++ (showF hi).1)), (.int .i64 0)] rfl rfl ⟨by kernel_rfl, by kernel_rfl, trivial⟩ ?_
      have hE : ((((showF lo).1 ++ ([46, 46] : List UInt8)) ++ (showF hi).1) = (showSpanF lo hi).1) ∧ ((0 : Int) = (showSpanF lo hi).2) := ⟨(by first | (rw [showSpan_bad (by assumption)]; done) | (rw [showSpan_one (by assumption) (by assumption)]; done) | (rw [showSpan_two (by assumption) (by assumption)]; done)), (by first | (rw [showSpan_bad (by assumption)]; done) | (rw [showSpan_one (by assumption) (by assumption)]; done) | (rw [showSpan_two (by assumption) (by assumption)]; done))⟩
      exact ⟨tup2 (congrArg S hE.1) (congrArg (Value.int .i64) hE.2), hb⟩
  · intro h16
    refine L_not false (by kernel_rfl) (L_nil (thenQ_normal (W_true (by kernel_rfl) (W_seq (W_region (L_as (L_as (L_nil (thenQ_normal (W_ret (thenQ_ret ?_)))))))))))
    refine end_ret [.tmp 2, .tmp 3] [(S ([] : List UInt8)), (.int .i64 41)] rfl rfl ⟨by kernel_rfl, by kernel_rfl, trivial⟩ ?_
    have hE : (([] : List UInt8) = (showSpanF lo hi).1) ∧ ((41 : Int) = (showSpanF lo hi).2) := ⟨(by first | (rw [showSpan_bad (by assumption)]; done) | (rw [showSpan_one (by assumption) (by assumption)]; done) | (rw [showSpan_two (by assumption) (by assumption)]; done)), (by first | (rw [showSpan_bad (by assumption)]; done) | (rw [showSpan_one (by assumption) (by assumption)]; done) | (rw [showSpan_two (by assumption) (by assumption)]; done))⟩
    exact ⟨tup2 (congrArg S hE.1) (congrArg (Value.int .i64) hE.2), hb⟩

set_option maxHeartbeats 4000000 in
set_option maxRecDepth 100000 in
theorem c_furrowref04_Span (s : List UInt8) (w : World) (hs : s.length ≤ 1073741824) :
    Calls Try.prog 38 #[(S s)] w (Ret fun v w' => v = (.tuple #[(Value.agg #[(.int .i32 ((spanF s).1)), (.int .i32 ((spanF s).2.1))]), (.int .i64 ((spanF s).2.2))]) ∧ Below w.heap.size w w') := by
  refine enter (args := [(S s)]) Try.func38 rfl (by kernel_rfl : _ = 78) (by kernel_rfl) ?_
  have hb := Below.refl w.heap.size w
  have hs : w.heap.size ≤ w.heap.size := Nat.le_refl _
  refine W_seq (W_region (L_new (fun b => .pointer (some ⟨b, 0, none⟩)) (.cells [(.int .i32 0), (.int .i32 0)].toArray 29 (0, 0)) (by kernel_rfl) (by kernel_rfl) ?_))
  intro b1 w2 hN3
  have g_x2 : w.heap.size ≤ b1 := by rw [hN3.num]; exact hs
  replace hb := hb.trans (hN3.below.mono hs)
  replace hs := Nat.le_trans hs (hN3.below.size)
  have o_x2 := hN3.here
  refine L_as (L_nil (thenQ_normal (W_seq (W_region (L_as (L_nil (thenQ_normal (W_seq (W_seq (W_region (L_as (L_nil (thenQ_normal (W_block ?_))))))))))))))
  refine W_loop (fun m s0 w0 => ∃ (i : Nat) (a : Int), (m = s.length - i) ∧ (s0.ds = []) ∧ (s0.f 0 = (S s)) ∧ (s0.f 2 = (.pointer (some ⟨b1, 0, none⟩))) ∧ (s0.f 3 = (.int .i64 0)) ∧ (s0.f 4 = (.int .i64 a)) ∧ (s0.f 5 = (.int .i64 ((i : Nat) : Int))) ∧ (w0.heap[b1]? = some (.cells [(.int .i32 0), (.int .i32 0)].toArray 29 (0, 0))) ∧ (Below w.heap.size w w0) ∧ (w.heap.size ≤ w0.heap.size) ∧ (i ≤ s.length) ∧ (-1 ≤ a ∧ a ≤ 1073741824) ∧ (atInv s i a)) _ ⟨0, (-1), rfl, by kernel_rfl, by kernel_rfl, by kernel_rfl, by kernel_rfl, by kernel_rfl, by kernel_rfl, o_x2, hb, hs, by omega, by omega, at_zero s⟩ ?_
  rintro m4 s5 w6 ⟨i, a, hm, hds, f_0, f_2, f_3, f_4, f_5, o_x2, hb, hs, i1, i0, i3⟩
  refine W_set 0 _ f_0 (W_set 2 _ f_2 (W_set 3 _ f_3 (W_set 4 _ f_4 (W_set 5 _ f_5 ?_))))
  clear f_0 f_2 f_3 f_4 f_5
  refine W_seq (W_seq (W_region (L_mv (L_addN i 1 (by omega) (by kernel_rfl) (by kernel_rfl) (L_mv (L_slen 9 s rfl Try.underlying9 (by kernel_rfl) (L_cmp .i64 (((i + 1) : Nat) : Int) (((s).length : Nat) : Int) ((i + 1) < (s).length) rfl (cmpN_lt (i + 1) ((s).length)) (by kernel_rfl) (by kernel_rfl) ?_ ?_)))))))
  · intro h7
    replace h7 : (i + 1) < (s).length := by omega
    refine L_mv (L_want (by kernel_rfl) (L_mv (L_want (by kernel_rfl) (L_cmp .i64 a 0 (a < 0) rfl (cmp_lt a 0) (by kernel_rfl) (by kernel_rfl) ?_ ?_))))
    · intro h8
      replace h8 : a < 0 := by omega
      refine L_pickT (by kernel_rfl) (L_nil (thenQ_normal (W_true (by kernel_rfl) (W_skip (thenQ_normal (W_seq (W_block (W_seq (W_region (L_mv (L_mv ?_)))))))))))
      have hz := get_some s i (by first | omega | (have hq := (at_some i3 (by omega)).2; omega) | (simp only [List.length_take, List.length_drop]; omega)); obtain ⟨c9, hc10⟩ := hz
      have := c9.toNat_lt
      refine L_sindex (k := .i64) s i c9 Try.underlying9 hc10 (by kernel_rfl) (by kernel_rfl) (L_cmp .u8 ((c9.toNat : Nat) : Int) ((46 : Nat) : Int) (c9.toNat = 46) rfl (cmpN_eq c9.toNat 46) (by kernel_rfl) (by kernel_rfl) ?_ ?_)
      · intro h11
        replace h11 : c9.toNat = 46 := by omega
        refine L_mv (L_want (by kernel_rfl) (L_mv (L_want (by kernel_rfl) (L_mv (L_want (by kernel_rfl) (L_addN i 1 (by omega) (by kernel_rfl) (by kernel_rfl) (L_want (by kernel_rfl) ?_)))))))
        have hz := get_some s (i + 1) (by first | omega | (have hq := (at_some i3 (by omega)).2; omega) | (simp only [List.length_take, List.length_drop]; omega)); obtain ⟨c12, hc13⟩ := hz
        have := c12.toNat_lt
        refine L_sindex (k := .i64) s (i + 1) c12 Try.underlying9 hc13 (by kernel_rfl) (by kernel_rfl) (L_want (by kernel_rfl) (L_cmp .u8 ((c12.toNat : Nat) : Int) ((46 : Nat) : Int) (c12.toNat = 46) rfl (cmpN_eq c12.toNat 46) (by kernel_rfl) (by kernel_rfl) ?_ ?_))
        · intro h14
          replace h14 : c12.toNat = 46 := by omega
          refine L_pickT (by kernel_rfl) (L_nil (thenQ_normal (W_true (by kernel_rfl) (W_region (L_mv (L_as (L_nil (blkQ_normal (thenQ_normal (W_region (L_mv (L_addN i 1 (by omega) (by kernel_rfl) (by kernel_rfl) (L_as (L_nil ?_))))))))))))))
          refine thenQ_normal ⟨_, ?_, (i + 1), ((i : Nat) : Int), rfl, hds, by kernel_rfl, by kernel_rfl, by kernel_rfl, by kernel_rfl, by kernel_rfl, o_x2, hb, hs, ?_, ?_, ?_⟩
          · omega
          · omega
          · omega
          · first | exact at_hit i3 (by omega) (by omega) (dots_hit (by assumption) (by assumption) (by omega) (by omega)) | exact at_miss i3 (by omega) (dots_miss1 (by omega) (by assumption) (by omega)) | exact at_miss i3 (by omega) (dots_miss2 (by omega) (by assumption) (by omega))
        · intro h15
          replace h15 : c12.toNat ≠ 46 := by omega
          refine L_pickT (by kernel_rfl) (L_nil (thenQ_normal (W_false (by kernel_rfl) (W_skip (blkQ_normal (thenQ_normal (W_region (L_mv (L_addN i 1 (by omega) (by kernel_rfl) (by kernel_rfl) (L_as (L_nil ?_)))))))))))
          refine thenQ_normal ⟨_, ?_, (i + 1), a, rfl, hds, by kernel_rfl, by kernel_rfl, by kernel_rfl, by kernel_rfl, by kernel_rfl, o_x2, hb, hs, ?_, ?_, ?_⟩
          · omega
          · omega
          · omega
          · first | exact at_hit i3 (by omega) (by omega) (dots_hit (by assumption) (by assumption) (by omega) (by omega)) | exact at_miss i3 (by omega) (dots_miss1 (by omega) (by assumption) (by omega)) | exact at_miss i3 (by omega) (dots_miss2 (by omega) (by assumption) (by omega))
      · intro h16
        replace h16 : c9.toNat ≠ 46 := by omega
        refine L_mv (L_skip (by kernel_rfl) (L_skip (by kernel_rfl) (L_skip (by kernel_rfl) (L_skip (by kernel_rfl) (L_skip (by kernel_rfl) (L_pickF (by kernel_rfl) (L_nil (thenQ_normal (W_false (by kernel_rfl) (W_skip (blkQ_normal (thenQ_normal (W_region (L_mv (L_addN i 1 (by omega) (by kernel_rfl) (by kernel_rfl) (L_as (L_nil ?_)))))))))))))))))
        refine thenQ_normal ⟨_, ?_, (i + 1), a, rfl, hds, by kernel_rfl, by kernel_rfl, by kernel_rfl, by kernel_rfl, by kernel_rfl, o_x2, hb, hs, ?_, ?_, ?_⟩
        · omega
        · omega
        · omega
        · first | exact at_hit i3 (by omega) (by omega) (dots_hit (by assumption) (by assumption) (by omega) (by omega)) | exact at_miss i3 (by omega) (dots_miss1 (by omega) (by assumption) (by omega)) | exact at_miss i3 (by omega) (dots_miss2 (by omega) (by assumption) (by omega))
    · intro h17
      replace h17 : 0 ≤ a := by omega
      refine L_pickT (by kernel_rfl) (L_nil (thenQ_normal (W_false (by kernel_rfl) (W_exit (thenQ_exit (thenQ_exit (blkQ_exit (thenQ_normal (W_seq (W_seq (W_region (L_mv (L_cmp .i64 a 0 (a < 0) rfl (cmp_lt a 0) (by kernel_rfl) (by kernel_rfl) ?_ ?_)))))))))))))
      · intro h18
        replace h18 : a < 0 := by omega
        refine L_nil (thenQ_normal (W_true (by kernel_rfl) (W_seq (W_region (L_mv (L_call 32 [(S s)] (by kernel_rfl) (by kernel_rfl) (c_furrowref04_Read s _ (by first | omega | (have hq := (at_some i3 (by omega)).2; omega) | (simp only [List.length_take, List.length_drop]; omega))) ?_))))))
        rintro _ w19 ⟨rfl, hB20⟩
        replace hb := hb.trans (hB20.mono hs)
        replace hs := Nat.le_trans hs (hB20.size)
        replace o_x2 := obj_below o_x2 hB20
        refine L_mv (L_run (.int .i32 ((hexF s).1)) (by kernel_rfl) (by kernel_rfl) (L_run (.int .i64 ((hexF s).2)) (by kernel_rfl) (by kernel_rfl) (L_as (L_as (L_nil (thenQ_normal (W_seq (W_seq (W_region (L_mv (L_cmp .i64 ((hexF s).2) 0 ((hexF s).2 ≠ 0) rfl (cmp_ne ((hexF s).2) 0) (by kernel_rfl) (by kernel_rfl) ?_ ?_)))))))))))
        · intro h22
          replace h22 : (hexF s).2 ≠ 0 := by omega
          refine L_nil (thenQ_normal (W_true (by kernel_rfl) (W_seq (W_region (L_run (Value.agg #[(.int .i32 0), (.int .i32 0)]) (by kernel_rfl) (by kernel_rfl) (L_mv (L_storeA b1 0 [(.int .i32 0), (.int .i32 0)] [(.int .i32 0), (.int .i32 0)] [(.int .i32 0), (.int .i32 0)] 29 (by kernel_rfl) (by kernel_rfl) rfl (by kernel_rfl) o_x2 (by kernel_rfl) rfl ?_)))))))
          intro w23 hW24
          replace hb := hb.trans (hW24.below g_x2)
          replace hs := Nat.le_trans hs (Nat.le_of_eq hW24.size.symm)
          replace o_x2 := hW24.here
          refine L_as (L_nil (thenQ_normal (W_ret (thenQ_ret (thenQ_ret ?_)))))
          refine end_ret [.cell 2 29, .tmp 3] [(Value.agg #[(.int .i32 0), (.int .i32 0)]), (.int .i64 ((hexF s).2))] rfl hds ⟨⟨⟨b1, 0, none⟩, by kernel_rfl, load_agg [(.int .i32 0), (.int .i32 0)] (by kernel_rfl) (by kernel_rfl) (cells_obj o_x2)⟩, by kernel_rfl, trivial⟩ ?_
          have hE : ((Value.agg #[(.int .i32 0), (.int .i32 0)]) = (Value.agg #[(.int .i32 ((spanF s).1)), (.int .i32 ((spanF s).2.1))])) ∧ (((hexF s).2 : Int) = (spanF s).2.2) := ⟨(by first | (rw [span_none (at_none i3 (by omega) (by omega))]; simp [*]; done) | (rw [span_some (at_some i3 (by omega)).1, show a.toNat + 2 = (a + 2).toNat by omega]; simp [*]; done) | (rw [span_some (at_some i3 (by omega)).1, show a.toNat + 2 = (a + 2).toNat by omega]; rw [if_neg (by simp [*]), if_neg (by omega)]; done)), (by first | (rw [span_none (at_none i3 (by omega) (by omega))]; simp [*]; done) | (rw [span_some (at_some i3 (by omega)).1, show a.toNat + 2 = (a + 2).toNat by omega]; simp [*]; done) | (rw [span_some (at_some i3 (by omega)).1, show a.toNat + 2 = (a + 2).toNat by omega]; rw [if_neg (by simp [*]), if_neg (by omega)]; done))⟩
          exact ⟨tup2 (hE.1) (congrArg (Value.int .i64) hE.2), hb⟩
        · intro h25
          replace h25 : (hexF s).2 = 0 := by omega
          refine L_nil (thenQ_normal (W_false (by kernel_rfl) (W_skip (thenQ_normal (W_seq (W_region (L_mv (L_mv (L_run (Value.agg #[(.int .i32 ((hexF s).1)), (.int .i32 ((hexF s).1))]) (by kernel_rfl) (by kernel_rfl) (L_storeA b1 0 [(.int .i32 ((hexF s).1)), (.int .i32 ((hexF s).1))] [(.int .i32 0), (.int .i32 0)] [(.int .i32 ((hexF s).1)), (.int .i32 ((hexF s).1))] 29 (by kernel_rfl) (by kernel_rfl) rfl (by kernel_rfl) o_x2 (by kernel_rfl) rfl ?_))))))))))
          intro w26 hW27
          replace hb := hb.trans (hW27.below g_x2)
          replace hs := Nat.le_trans hs (Nat.le_of_eq hW27.size.symm)
          replace o_x2 := hW27.here
          refine L_as (L_nil (thenQ_normal (W_ret (thenQ_ret ?_))))
          refine end_ret [.cell 2 29, .tmp 3] [(Value.agg #[(.int .i32 ((hexF s).1)), (.int .i32 ((hexF s).1))]), (.int .i64 0)] rfl hds ⟨⟨⟨b1, 0, none⟩, by kernel_rfl, load_agg [(.int .i32 ((hexF s).1)), (.int .i32 ((hexF s).1))] (by kernel_rfl) (by kernel_rfl) (cells_obj o_x2)⟩, by kernel_rfl, trivial⟩ ?_
          have hE : ((Value.agg #[(.int .i32 ((hexF s).1)), (.int .i32 ((hexF s).1))]) = (Value.agg #[(.int .i32 ((spanF s).1)), (.int .i32 ((spanF s).2.1))])) ∧ ((0 : Int) = (spanF s).2.2) := ⟨(by first | (rw [span_none (at_none i3 (by omega) (by omega))]; simp [*]; done) | (rw [span_some (at_some i3 (by omega)).1, show a.toNat + 2 = (a + 2).toNat by omega]; simp [*]; done) | (rw [span_some (at_some i3 (by omega)).1, show a.toNat + 2 = (a + 2).toNat by omega]; rw [if_neg (by simp [*]), if_neg (by omega)]; done)), (by first | (rw [span_none (at_none i3 (by omega) (by omega))]; simp [*]; done) | (rw [span_some (at_some i3 (by omega)).1, show a.toNat + 2 = (a + 2).toNat by omega]; simp [*]; done) | (rw [span_some (at_some i3 (by omega)).1, show a.toNat + 2 = (a + 2).toNat by omega]; rw [if_neg (by simp [*]), if_neg (by omega)]; done))⟩
          exact ⟨tup2 (hE.1) (congrArg (Value.int .i64) hE.2), hb⟩
      · intro h28
        replace h28 : 0 ≤ a := by omega
        refine L_nil (thenQ_normal (W_false (by kernel_rfl) (W_skip (thenQ_normal (W_seq (W_region (L_mv (L_mv (L_ssto s ((a).toNat) Try.underlying9 (by kernel_rfl) (toNat_val a .i64 (by kernel_rfl) (by omega)) (by first | omega | (have hq := (at_some i3 (by omega)).2; omega) | (simp only [List.length_take, List.length_drop]; omega)) (L_call 32 [(S (List.take ((a).toNat) s))] (by kernel_rfl) (by kernel_rfl) (c_furrowref04_Read (List.take ((a).toNat) s) _ (by first | omega | (have hq := (at_some i3 (by omega)).2; omega) | (simp only [List.length_take, List.length_drop]; omega))) ?_))))))))))
        rintro _ w29 ⟨rfl, hB30⟩
        replace hb := hb.trans (hB30.mono hs)
        replace hs := Nat.le_trans hs (hB30.size)
        replace o_x2 := obj_below o_x2 hB30
        refine L_mv (L_run (.int .i32 ((hexF (List.take ((a).toNat) s)).1)) (by kernel_rfl) (by kernel_rfl) (L_run (.int .i64 ((hexF (List.take ((a).toNat) s)).2)) (by kernel_rfl) (by kernel_rfl) (L_as (L_as (L_nil (thenQ_normal (W_seq (W_region (L_mv (L_mv (L_arith a 2 (a + 2) rfl (by kernel_rfl) (by kernel_rfl) (wrap_i64 _ (by simp only [arithZ]; omega) (by simp only [arithZ]; omega)) (L_ssfrom s (((a + 2)).toNat) Try.underlying9 (by kernel_rfl) (toNat_val (a + 2) .i64 (by kernel_rfl) (by omega)) (by first | omega | (have hq := (at_some i3 (by omega)).2; omega) | (simp only [List.length_take, List.length_drop]; omega)) (L_call 32 [(S (List.drop (((a + 2)).toNat) s))] (by kernel_rfl) (by kernel_rfl) (c_furrowref04_Read (List.drop (((a + 2)).toNat) s) _ (by first | omega | (have hq := (at_some i3 (by omega)).2; omega) | (simp only [List.length_take, List.length_drop]; omega))) ?_)))))))))))))
        rintro _ w32 ⟨rfl, hB33⟩
        replace hb := hb.trans (hB33.mono hs)
        replace hs := Nat.le_trans hs (hB33.size)
        replace o_x2 := obj_below o_x2 hB33
        refine L_mv (L_run (.int .i32 ((hexF (List.drop (((a + 2)).toNat) s)).1)) (by kernel_rfl) (by kernel_rfl) (L_run (.int .i64 ((hexF (List.drop (((a + 2)).toNat) s)).2)) (by kernel_rfl) (by kernel_rfl) (L_as (L_as (L_nil (thenQ_normal (W_seq (W_seq (W_region (L_mv (L_cmp .i64 ((hexF (List.take ((a).toNat) s)).2) 0 ((hexF (List.take ((a).toNat) s)).2 ≠ 0) rfl (cmp_ne ((hexF (List.take ((a).toNat) s)).2) 0) (by kernel_rfl) (by kernel_rfl) ?_ ?_)))))))))))
        · intro h35
          replace h35 : (hexF (List.take ((a).toNat) s)).2 ≠ 0 := by omega
          refine L_mv (L_skip (by kernel_rfl) (L_skip (by kernel_rfl) (L_pickT (by kernel_rfl) (L_nil (thenQ_normal (W_true (by kernel_rfl) (W_seq (W_region (L_run (Value.agg #[(.int .i32 0), (.int .i32 0)]) (by kernel_rfl) (by kernel_rfl) (L_storeA b1 0 [(.int .i32 0), (.int .i32 0)] [(.int .i32 0), (.int .i32 0)] [(.int .i32 0), (.int .i32 0)] 29 (by kernel_rfl) (by kernel_rfl) rfl (by kernel_rfl) o_x2 (by kernel_rfl) rfl ?_))))))))))
          intro w36 hW37
          replace hb := hb.trans (hW37.below g_x2)
          replace hs := Nat.le_trans hs (Nat.le_of_eq hW37.size.symm)
          replace o_x2 := hW37.here
          refine L_as (L_nil (thenQ_normal (W_ret (thenQ_ret ?_))))
          refine end_ret [.cell 2 29, .tmp 3] [(Value.agg #[(.int .i32 0), (.int .i32 0)]), (.int .i64 40)] rfl hds ⟨⟨⟨b1, 0, none⟩, by kernel_rfl, load_agg [(.int .i32 0), (.int .i32 0)] (by kernel_rfl) (by kernel_rfl) (cells_obj o_x2)⟩, by kernel_rfl, trivial⟩ ?_
          have hE : ((Value.agg #[(.int .i32 0), (.int .i32 0)]) = (Value.agg #[(.int .i32 ((spanF s).1)), (.int .i32 ((spanF s).2.1))])) ∧ ((40 : Int) = (spanF s).2.2) := ⟨(by first | (rw [span_none (at_none i3 (by omega) (by omega))]; simp [*]; done) | (rw [span_some (at_some i3 (by omega)).1, show a.toNat + 2 = (a + 2).toNat by omega]; simp [*]; done) | (rw [span_some (at_some i3 (by omega)).1, show a.toNat + 2 = (a + 2).toNat by omega]; rw [if_neg (by simp [*]), if_neg (by omega)]; done)), (by first | (rw [span_none (at_none i3 (by omega) (by omega))]; simp [*]; done) | (rw [span_some (at_some i3 (by omega)).1, show a.toNat + 2 = (a + 2).toNat by omega]; simp [*]; done) | (rw [span_some (at_some i3 (by omega)).1, show a.toNat + 2 = (a + 2).toNat by omega]; rw [if_neg (by simp [*]), if_neg (by omega)]; done))⟩
          exact ⟨tup2 (hE.1) (congrArg (Value.int .i64) hE.2), hb⟩
        · intro h38
          replace h38 : (hexF (List.take ((a).toNat) s)).2 = 0 := by omega
          refine L_mv (L_want (by kernel_rfl) (L_mv (L_want (by kernel_rfl) (L_cmp .i64 ((hexF (List.drop (((a + 2)).toNat) s)).2) 0 ((hexF (List.drop (((a + 2)).toNat) s)).2 ≠ 0) rfl (cmp_ne ((hexF (List.drop (((a + 2)).toNat) s)).2) 0) (by kernel_rfl) (by kernel_rfl) ?_ ?_))))
          · intro h39
            replace h39 : (hexF (List.drop (((a + 2)).toNat) s)).2 ≠ 0 := by omega
            refine L_pickF (by kernel_rfl) (L_nil (thenQ_normal (W_true (by kernel_rfl) (W_seq (W_region (L_run (Value.agg #[(.int .i32 0), (.int .i32 0)]) (by kernel_rfl) (by kernel_rfl) (L_storeA b1 0 [(.int .i32 0), (.int .i32 0)] [(.int .i32 0), (.int .i32 0)] [(.int .i32 0), (.int .i32 0)] 29 (by kernel_rfl) (by kernel_rfl) rfl (by kernel_rfl) o_x2 (by kernel_rfl) rfl ?_)))))))
            intro w40 hW41
            replace hb := hb.trans (hW41.below g_x2)
            replace hs := Nat.le_trans hs (Nat.le_of_eq hW41.size.symm)
            replace o_x2 := hW41.here
            refine L_as (L_nil (thenQ_normal (W_ret (thenQ_ret ?_))))
            refine end_ret [.cell 2 29, .tmp 3] [(Value.agg #[(.int .i32 0), (.int .i32 0)]), (.int .i64 40)] rfl hds ⟨⟨⟨b1, 0, none⟩, by kernel_rfl, load_agg [(.int .i32 0), (.int .i32 0)] (by kernel_rfl) (by kernel_rfl) (cells_obj o_x2)⟩, by kernel_rfl, trivial⟩ ?_
            have hE : ((Value.agg #[(.int .i32 0), (.int .i32 0)]) = (Value.agg #[(.int .i32 ((spanF s).1)), (.int .i32 ((spanF s).2.1))])) ∧ ((40 : Int) = (spanF s).2.2) := ⟨(by first | (rw [span_none (at_none i3 (by omega) (by omega))]; simp [*]; done) | (rw [span_some (at_some i3 (by omega)).1, show a.toNat + 2 = (a + 2).toNat by omega]; simp [*]; done) | (rw [span_some (at_some i3 (by omega)).1, show a.toNat + 2 = (a + 2).toNat by omega]; rw [if_neg (by simp [*]), if_neg (by omega)]; done)), (by first | (rw [span_none (at_none i3 (by omega) (by omega))]; simp [*]; done) | (rw [span_some (at_some i3 (by omega)).1, show a.toNat + 2 = (a + 2).toNat by omega]; simp [*]; done) | (rw [span_some (at_some i3 (by omega)).1, show a.toNat + 2 = (a + 2).toNat by omega]; rw [if_neg (by simp [*]), if_neg (by omega)]; done))⟩
            exact ⟨tup2 (hE.1) (congrArg (Value.int .i64) hE.2), hb⟩
          · intro h42
            replace h42 : (hexF (List.drop (((a + 2)).toNat) s)).2 = 0 := by omega
            refine L_pickF (by kernel_rfl) (L_nil (thenQ_normal (W_false (by kernel_rfl) (W_skip (thenQ_normal (W_seq (W_seq (W_region (L_mv (L_mv (L_cmp .i32 ((hexF (List.take ((a).toNat) s)).1) ((hexF (List.drop (((a + 2)).toNat) s)).1) ((hexF (List.drop (((a + 2)).toNat) s)).1 < (hexF (List.take ((a).toNat) s)).1) rfl (cmp_gt ((hexF (List.take ((a).toNat) s)).1) ((hexF (List.drop (((a + 2)).toNat) s)).1)) (by kernel_rfl) (by kernel_rfl) ?_ ?_)))))))))))
            · intro h43
              replace h43 : (hexF (List.drop (((a + 2)).toNat) s)).1 < (hexF (List.take ((a).toNat) s)).1 := by omega
              refine L_nil (thenQ_normal (W_true (by kernel_rfl) (W_seq (W_region (L_run (Value.agg #[(.int .i32 0), (.int .i32 0)]) (by kernel_rfl) (by kernel_rfl) (L_storeA b1 0 [(.int .i32 0), (.int .i32 0)] [(.int .i32 0), (.int .i32 0)] [(.int .i32 0), (.int .i32 0)] 29 (by kernel_rfl) (by kernel_rfl) rfl (by kernel_rfl) o_x2 (by kernel_rfl) rfl ?_))))))
              intro w44 hW45
              replace hb := hb.trans (hW45.below g_x2)
              replace hs := Nat.le_trans hs (Nat.le_of_eq hW45.size.symm)
              replace o_x2 := hW45.here
              refine L_as (L_nil (thenQ_normal (W_ret (thenQ_ret ?_))))
              refine end_ret [.cell 2 29, .tmp 3] [(Value.agg #[(.int .i32 0), (.int .i32 0)]), (.int .i64 41)] rfl hds ⟨⟨⟨b1, 0, none⟩, by kernel_rfl, load_agg [(.int .i32 0), (.int .i32 0)] (by kernel_rfl) (by kernel_rfl) (cells_obj o_x2)⟩, by kernel_rfl, trivial⟩ ?_
              have hE : ((Value.agg #[(.int .i32 0), (.int .i32 0)]) = (Value.agg #[(.int .i32 ((spanF s).1)), (.int .i32 ((spanF s).2.1))])) ∧ ((41 : Int) = (spanF s).2.2) := ⟨(by first | (rw [span_none (at_none i3 (by omega) (by omega))]; simp [*]; done) | (rw [span_some (at_some i3 (by omega)).1, show a.toNat + 2 = (a + 2).toNat by omega]; simp [*]; done) | (rw [span_some (at_some i3 (by omega)).1, show a.toNat + 2 = (a + 2).toNat by omega]; rw [if_neg (by simp [*]), if_neg (by omega)]; done)), (by first | (rw [span_none (at_none i3 (by omega) (by omega))]; simp [*]; done) | (rw [span_some (at_some i3 (by omega)).1, show a.toNat + 2 = (a + 2).toNat by omega]; simp [*]; done) | (rw [span_some (at_some i3 (by omega)).1, show a.toNat + 2 = (a + 2).toNat by omega]; rw [if_neg (by simp [*]), if_neg (by omega)]; done))⟩
              exact ⟨tup2 (hE.1) (congrArg (Value.int .i64) hE.2), hb⟩
            · intro h46
              replace h46 : (hexF (List.take ((a).toNat) s)).1 ≤ (hexF (List.drop (((a + 2)).toNat) s)).1 := by omega
              refine L_nil (thenQ_normal (W_false (by kernel_rfl) (W_skip (thenQ_normal (W_seq (W_region (L_mv (L_mv (L_run (Value.agg #[(.int .i32 ((hexF (List.take ((a).toNat) s)).1)), (.int .i32 ((hexF (List.drop (((a + 2)).toNat) s)).1))]) (by kernel_rfl) (by kernel_rfl) (L_storeA b1 0 [(.int .i32 ((hexF (List.take ((a).toNat) s)).1)), (.int .i32 ((hexF (List.drop (((a + 2)).toNat) s)).1))] [(.int .i32 0), (.int .i32 0)] [(.int .i32 ((hexF (List.take ((a).toNat) s)).1)), (.int .i32 ((hexF (List.drop (((a + 2)).toNat) s)).1))] 29 (by kernel_rfl) (by kernel_rfl) rfl (by kernel_rfl) o_x2 (by kernel_rfl) rfl ?_))))))))))
              intro w47 hW48
              replace hb := hb.trans (hW48.below g_x2)
              replace hs := Nat.le_trans hs (Nat.le_of_eq hW48.size.symm)
              replace o_x2 := hW48.here
              refine L_as (L_nil (thenQ_normal (W_ret ?_)))
              refine end_ret [.cell 2 29, .tmp 3] [(Value.agg #[(.int .i32 ((hexF (List.take ((a).toNat) s)).1)), (.int .i32 ((hexF (List.drop (((a + 2)).toNat) s)).1))]), (.int .i64 0)] rfl hds ⟨⟨⟨b1, 0, none⟩, by kernel_rfl, load_agg [(.int .i32 ((hexF (List.take ((a).toNat) s)).1)), (.int .i32 ((hexF (List.drop (((a + 2)).toNat) s)).1))] (by kernel_rfl) (by kernel_rfl) (cells_obj o_x2)⟩, by kernel_rfl, trivial⟩ ?_
              have hE : ((Value.agg #[(.int .i32 ((hexF (List.take ((a).toNat) s)).1)), (.int .i32 ((hexF (List.drop (((a + 2)).toNat) s)).1))]) = (Value.agg #[(.int .i32 ((spanF s).1)), (.int .i32 ((spanF s).2.1))])) ∧ ((0 : Int) = (spanF s).2.2) := ⟨(by first | (rw [span_none (at_none i3 (by omega) (by omega))]; simp [*]; done) | (rw [span_some (at_some i3 (by omega)).1, show a.toNat + 2 = (a + 2).toNat by omega]; simp [*]; done) | (rw [span_some (at_some i3 (by omega)).1, show a.toNat + 2 = (a + 2).toNat by omega]; rw [if_neg (by simp [*]), if_neg (by omega)]; done)), (by first | (rw [span_none (at_none i3 (by omega) (by omega))]; simp [*]; done) | (rw [span_some (at_some i3 (by omega)).1, show a.toNat + 2 = (a + 2).toNat by omega]; simp [*]; done) | (rw [span_some (at_some i3 (by omega)).1, show a.toNat + 2 = (a + 2).toNat by omega]; rw [if_neg (by simp [*]), if_neg (by omega)]; done))⟩
              exact ⟨tup2 (hE.1) (congrArg (Value.int .i64) hE.2), hb⟩
  · intro h49
    replace h49 : (s).length ≤ (i + 1) := by omega
    refine L_mv (L_skip (by kernel_rfl) (L_skip (by kernel_rfl) (L_pickF (by kernel_rfl) (L_nil (thenQ_normal (W_false (by kernel_rfl) (W_exit (thenQ_exit (thenQ_exit (blkQ_exit (thenQ_normal (W_seq (W_seq (W_region (L_mv (L_cmp .i64 a 0 (a < 0) rfl (cmp_lt a 0) (by kernel_rfl) (by kernel_rfl) ?_ ?_))))))))))))))))
    · intro h50
      replace h50 : a < 0 := by omega
      refine L_nil (thenQ_normal (W_true (by kernel_rfl) (W_seq (W_region (L_mv (L_call 32 [(S s)] (by kernel_rfl) (by kernel_rfl) (c_furrowref04_Read s _ (by first | omega | (have hq := (at_some i3 (by omega)).2; omega) | (simp only [List.length_take, List.length_drop]; omega))) ?_))))))
      rintro _ w51 ⟨rfl, hB52⟩
      replace hb := hb.trans (hB52.mono hs)
      replace hs := Nat.le_trans hs (hB52.size)
      replace o_x2 := obj_below o_x2 hB52
      refine L_mv (L_run (.int .i32 ((hexF s).1)) (by kernel_rfl) (by kernel_rfl) (L_run (.int .i64 ((hexF s).2)) (by kernel_rfl) (by kernel_rfl) (L_as (L_as (L_nil (thenQ_normal (W_seq (W_seq (W_region (L_mv (L_cmp .i64 ((hexF s).2) 0 ((hexF s).2 ≠ 0) rfl (cmp_ne ((hexF s).2) 0) (by kernel_rfl) (by kernel_rfl) ?_ ?_)))))))))))
      · intro h54
        replace h54 : (hexF s).2 ≠ 0 := by omega
        refine L_nil (thenQ_normal (W_true (by kernel_rfl) (W_seq (W_region (L_run (Value.agg #[(.int .i32 0), (.int .i32 0)]) (by kernel_rfl) (by kernel_rfl) (L_mv (L_storeA b1 0 [(.int .i32 0), (.int .i32 0)] [(.int .i32 0), (.int .i32 0)] [(.int .i32 0), (.int .i32 0)] 29 (by kernel_rfl) (by kernel_rfl) rfl (by kernel_rfl) o_x2 (by kernel_rfl) rfl ?_)))))))
        intro w55 hW56
        replace hb := hb.trans (hW56.below g_x2)
        replace hs := Nat.le_trans hs (Nat.le_of_eq hW56.size.symm)
        replace o_x2 := hW56.here
        refine L_as (L_nil (thenQ_normal (W_ret (thenQ_ret (thenQ_ret ?_)))))
        refine end_ret [.cell 2 29, .tmp 3] [(Value.agg #[(.int .i32 0), (.int .i32 0)]), (.int .i64 ((hexF s).2))] rfl hds ⟨⟨⟨b1, 0, none⟩, by kernel_rfl, load_agg [(.int .i32 0), (.int .i32 0)] (by kernel_rfl) (by kernel_rfl) (cells_obj o_x2)⟩, by kernel_rfl, trivial⟩ ?_
        have hE : ((Value.agg #[(.int .i32 0), (.int .i32 0)]) = (Value.agg #[(.int .i32 ((spanF s).1)), (.int .i32 ((spanF s).2.1))])) ∧ (((hexF s).2 : Int) = (spanF s).2.2) := ⟨(by first | (rw [span_none (at_none i3 (by omega) (by omega))]; simp [*]; done) | (rw [span_some (at_some i3 (by omega)).1, show a.toNat + 2 = (a + 2).toNat by omega]; simp [*]; done) | (rw [span_some (at_some i3 (by omega)).1, show a.toNat + 2 = (a + 2).toNat by omega]; rw [if_neg (by simp [*]), if_neg (by omega)]; done)), (by first | (rw [span_none (at_none i3 (by omega) (by omega))]; simp [*]; done) | (rw [span_some (at_some i3 (by omega)).1, show a.toNat + 2 = (a + 2).toNat by omega]; simp [*]; done) | (rw [span_some (at_some i3 (by omega)).1, show a.toNat + 2 = (a + 2).toNat by omega]; rw [if_neg (by simp [*]), if_neg (by omega)]; done))⟩
        exact ⟨tup2 (hE.1) (congrArg (Value.int .i64) hE.2), hb⟩
      · intro h57
        replace h57 : (hexF s).2 = 0 := by omega
        refine L_nil (thenQ_normal (W_false (by kernel_rfl) (W_skip (thenQ_normal (W_seq (W_region (L_mv (L_mv (L_run (Value.agg #[(.int .i32 ((hexF s).1)), (.int .i32 ((hexF s).1))]) (by kernel_rfl) (by kernel_rfl) (L_storeA b1 0 [(.int .i32 ((hexF s).1)), (.int .i32 ((hexF s).1))] [(.int .i32 0), (.int .i32 0)] [(.int .i32 ((hexF s).1)), (.int .i32 ((hexF s).1))] 29 (by kernel_rfl) (by kernel_rfl) rfl (by kernel_rfl) o_x2 (by kernel_rfl) rfl ?_))))))))))
        intro w58 hW59
        replace hb := hb.trans (hW59.below g_x2)
        replace hs := Nat.le_trans hs (Nat.le_of_eq hW59.size.symm)
        replace o_x2 := hW59.here
        refine L_as (L_nil (thenQ_normal (W_ret (thenQ_ret ?_))))
        refine end_ret [.cell 2 29, .tmp 3] [(Value.agg #[(.int .i32 ((hexF s).1)), (.int .i32 ((hexF s).1))]), (.int .i64 0)] rfl hds ⟨⟨⟨b1, 0, none⟩, by kernel_rfl, load_agg [(.int .i32 ((hexF s).1)), (.int .i32 ((hexF s).1))] (by kernel_rfl) (by kernel_rfl) (cells_obj o_x2)⟩, by kernel_rfl, trivial⟩ ?_
        have hE : ((Value.agg #[(.int .i32 ((hexF s).1)), (.int .i32 ((hexF s).1))]) = (Value.agg #[(.int .i32 ((spanF s).1)), (.int .i32 ((spanF s).2.1))])) ∧ ((0 : Int) = (spanF s).2.2) := ⟨(by first | (rw [span_none (at_none i3 (by omega) (by omega))]; simp [*]; done) | (rw [span_some (at_some i3 (by omega)).1, show a.toNat + 2 = (a + 2).toNat by omega]; simp [*]; done) | (rw [span_some (at_some i3 (by omega)).1, show a.toNat + 2 = (a + 2).toNat by omega]; rw [if_neg (by simp [*]), if_neg (by omega)]; done)), (by first | (rw [span_none (at_none i3 (by omega) (by omega))]; simp [*]; done) | (rw [span_some (at_some i3 (by omega)).1, show a.toNat + 2 = (a + 2).toNat by omega]; simp [*]; done) | (rw [span_some (at_some i3 (by omega)).1, show a.toNat + 2 = (a + 2).toNat by omega]; rw [if_neg (by simp [*]), if_neg (by omega)]; done))⟩
        exact ⟨tup2 (hE.1) (congrArg (Value.int .i64) hE.2), hb⟩
    · intro h60
      replace h60 : 0 ≤ a := by omega
      refine L_nil (thenQ_normal (W_false (by kernel_rfl) (W_skip (thenQ_normal (W_seq (W_region (L_mv (L_mv (L_ssto s ((a).toNat) Try.underlying9 (by kernel_rfl) (toNat_val a .i64 (by kernel_rfl) (by omega)) (by first | omega | (have hq := (at_some i3 (by omega)).2; omega) | (simp only [List.length_take, List.length_drop]; omega)) (L_call 32 [(S (List.take ((a).toNat) s))] (by kernel_rfl) (by kernel_rfl) (c_furrowref04_Read (List.take ((a).toNat) s) _ (by first | omega | (have hq := (at_some i3 (by omega)).2; omega) | (simp only [List.length_take, List.length_drop]; omega))) ?_))))))))))
      rintro _ w61 ⟨rfl, hB62⟩
      replace hb := hb.trans (hB62.mono hs)
      replace hs := Nat.le_trans hs (hB62.size)
      replace o_x2 := obj_below o_x2 hB62
      refine L_mv (L_run (.int .i32 ((hexF (List.take ((a).toNat) s)).1)) (by kernel_rfl) (by kernel_rfl) (L_run (.int .i64 ((hexF (List.take ((a).toNat) s)).2)) (by kernel_rfl) (by kernel_rfl) (L_as (L_as (L_nil (thenQ_normal (W_seq (W_region (L_mv (L_mv (L_arith a 2 (a + 2) rfl (by kernel_rfl) (by kernel_rfl) (wrap_i64 _ (by simp only [arithZ]; omega) (by simp only [arithZ]; omega)) (L_ssfrom s (((a + 2)).toNat) Try.underlying9 (by kernel_rfl) (toNat_val (a + 2) .i64 (by kernel_rfl) (by omega)) (by first | omega | (have hq := (at_some i3 (by omega)).2; omega) | (simp only [List.length_take, List.length_drop]; omega)) (L_call 32 [(S (List.drop (((a + 2)).toNat) s))] (by kernel_rfl) (by kernel_rfl) (c_furrowref04_Read (List.drop (((a + 2)).toNat) s) _ (by first | omega | (have hq := (at_some i3 (by omega)).2; omega) | (simp only [List.length_take, List.length_drop]; omega))) ?_)))))))))))))
      rintro _ w64 ⟨rfl, hB65⟩
      replace hb := hb.trans (hB65.mono hs)
      replace hs := Nat.le_trans hs (hB65.size)
      replace o_x2 := obj_below o_x2 hB65
      refine L_mv (L_run (.int .i32 ((hexF (List.drop (((a + 2)).toNat) s)).1)) (by kernel_rfl) (by kernel_rfl) (L_run (.int .i64 ((hexF (List.drop (((a + 2)).toNat) s)).2)) (by kernel_rfl) (by kernel_rfl) (L_as (L_as (L_nil (thenQ_normal (W_seq (W_seq (W_region (L_mv (L_cmp .i64 ((hexF (List.take ((a).toNat) s)).2) 0 ((hexF (List.take ((a).toNat) s)).2 ≠ 0) rfl (cmp_ne ((hexF (List.take ((a).toNat) s)).2) 0) (by kernel_rfl) (by kernel_rfl) ?_ ?_)))))))))))
      · intro h67
        replace h67 : (hexF (List.take ((a).toNat) s)).2 ≠ 0 := by omega
        refine L_mv (L_skip (by kernel_rfl) (L_skip (by kernel_rfl) (L_pickT (by kernel_rfl) (L_nil (thenQ_normal (W_true (by kernel_rfl) (W_seq (W_region (L_run (Value.agg #[(.int .i32 0), (.int .i32 0)]) (by kernel_rfl) (by kernel_rfl) (L_storeA b1 0 [(.int .i32 0), (.int .i32 0)] [(.int .i32 0), (.int .i32 0)] [(.int .i32 0), (.int .i32 0)] 29 (by kernel_rfl) (by kernel_rfl) rfl (by kernel_rfl) o_x2 (by kernel_rfl) rfl ?_))))))))))
        intro w68 hW69
        replace hb := hb.trans (hW69.below g_x2)
        replace hs := Nat.le_trans hs (Nat.le_of_eq hW69.size.symm)
        replace o_x2 := hW69.here
        refine L_as (L_nil (thenQ_normal (W_ret (thenQ_ret ?_))))
        refine end_ret [.cell 2 29, .tmp 3] [(Value.agg #[(.int .i32 0), (.int .i32 0)]), (.int .i64 40)] rfl hds ⟨⟨⟨b1, 0, none⟩, by kernel_rfl, load_agg [(.int .i32 0), (.int .i32 0)] (by kernel_rfl) (by kernel_rfl) (cells_obj o_x2)⟩, by kernel_rfl, trivial⟩ ?_
        have hE : ((Value.agg #[(.int .i32 0), (.int .i32 0)]) = (Value.agg #[(.int .i32 ((spanF s).1)), (.int .i32 ((spanF s).2.1))])) ∧ ((40 : Int) = (spanF s).2.2) := ⟨(by first | (rw [span_none (at_none i3 (by omega) (by omega))]; simp [*]; done) | (rw [span_some (at_some i3 (by omega)).1, show a.toNat + 2 = (a + 2).toNat by omega]; simp [*]; done) | (rw [span_some (at_some i3 (by omega)).1, show a.toNat + 2 = (a + 2).toNat by omega]; rw [if_neg (by simp [*]), if_neg (by omega)]; done)), (by first | (rw [span_none (at_none i3 (by omega) (by omega))]; simp [*]; done) | (rw [span_some (at_some i3 (by omega)).1, show a.toNat + 2 = (a + 2).toNat by omega]; simp [*]; done) | (rw [span_some (at_some i3 (by omega)).1, show a.toNat + 2 = (a + 2).toNat by omega]; rw [if_neg (by simp [*]), if_neg (by omega)]; done))⟩
        exact ⟨tup2 (hE.1) (congrArg (Value.int .i64) hE.2), hb⟩
      · intro h70
        replace h70 : (hexF (List.take ((a).toNat) s)).2 = 0 := by omega
        refine L_mv (L_want (by kernel_rfl) (L_mv (L_want (by kernel_rfl) (L_cmp .i64 ((hexF (List.drop (((a + 2)).toNat) s)).2) 0 ((hexF (List.drop (((a + 2)).toNat) s)).2 ≠ 0) rfl (cmp_ne ((hexF (List.drop (((a + 2)).toNat) s)).2) 0) (by kernel_rfl) (by kernel_rfl) ?_ ?_))))
        · intro h71
          replace h71 : (hexF (List.drop (((a + 2)).toNat) s)).2 ≠ 0 := by omega
          refine L_pickF (by kernel_rfl) (L_nil (thenQ_normal (W_true (by kernel_rfl) (W_seq (W_region (L_run (Value.agg #[(.int .i32 0), (.int .i32 0)]) (by kernel_rfl) (by kernel_rfl) (L_storeA b1 0 [(.int .i32 0), (.int .i32 0)] [(.int .i32 0), (.int .i32 0)] [(.int .i32 0), (.int .i32 0)] 29 (by kernel_rfl) (by kernel_rfl) rfl (by kernel_rfl) o_x2 (by kernel_rfl) rfl ?_)))))))
          intro w72 hW73
          replace hb := hb.trans (hW73.below g_x2)
          replace hs := Nat.le_trans hs (Nat.le_of_eq hW73.size.symm)
          replace o_x2 := hW73.here
          refine L_as (L_nil (thenQ_normal (W_ret (thenQ_ret ?_))))
          refine end_ret [.cell 2 29, .tmp 3] [(Value.agg #[(.int .i32 0), (.int .i32 0)]), (.int .i64 40)] rfl hds ⟨⟨⟨b1, 0, none⟩, by kernel_rfl, load_agg [(.int .i32 0), (.int .i32 0)] (by kernel_rfl) (by kernel_rfl) (cells_obj o_x2)⟩, by kernel_rfl, trivial⟩ ?_
          have hE : ((Value.agg #[(.int .i32 0), (.int .i32 0)]) = (Value.agg #[(.int .i32 ((spanF s).1)), (.int .i32 ((spanF s).2.1))])) ∧ ((40 : Int) = (spanF s).2.2) := ⟨(by first | (rw [span_none (at_none i3 (by omega) (by omega))]; simp [*]; done) | (rw [span_some (at_some i3 (by omega)).1, show a.toNat + 2 = (a + 2).toNat by omega]; simp [*]; done) | (rw [span_some (at_some i3 (by omega)).1, show a.toNat + 2 = (a + 2).toNat by omega]; rw [if_neg (by simp [*]), if_neg (by omega)]; done)), (by first | (rw [span_none (at_none i3 (by omega) (by omega))]; simp [*]; done) | (rw [span_some (at_some i3 (by omega)).1, show a.toNat + 2 = (a + 2).toNat by omega]; simp [*]; done) | (rw [span_some (at_some i3 (by omega)).1, show a.toNat + 2 = (a + 2).toNat by omega]; rw [if_neg (by simp [*]), if_neg (by omega)]; done))⟩
          exact ⟨tup2 (hE.1) (congrArg (Value.int .i64) hE.2), hb⟩
        · intro h74
          replace h74 : (hexF (List.drop (((a + 2)).toNat) s)).2 = 0 := by omega
          refine L_pickF (by kernel_rfl) (L_nil (thenQ_normal (W_false (by kernel_rfl) (W_skip (thenQ_normal (W_seq (W_seq (W_region (L_mv (L_mv (L_cmp .i32 ((hexF (List.take ((a).toNat) s)).1) ((hexF (List.drop (((a + 2)).toNat) s)).1) ((hexF (List.drop (((a + 2)).toNat) s)).1 < (hexF (List.take ((a).toNat) s)).1) rfl (cmp_gt ((hexF (List.take ((a).toNat) s)).1) ((hexF (List.drop (((a + 2)).toNat) s)).1)) (by kernel_rfl) (by kernel_rfl) ?_ ?_)))))))))))
          · intro h75
            replace h75 : (hexF (List.drop (((a + 2)).toNat) s)).1 < (hexF (List.take ((a).toNat) s)).1 := by omega
            refine L_nil (thenQ_normal (W_true (by kernel_rfl) (W_seq (W_region (L_run (Value.agg #[(.int .i32 0), (.int .i32 0)]) (by kernel_rfl) (by kernel_rfl) (L_storeA b1 0 [(.int .i32 0), (.int .i32 0)] [(.int .i32 0), (.int .i32 0)] [(.int .i32 0), (.int .i32 0)] 29 (by kernel_rfl) (by kernel_rfl) rfl (by kernel_rfl) o_x2 (by kernel_rfl) rfl ?_))))))
            intro w76 hW77
            replace hb := hb.trans (hW77.below g_x2)
            replace hs := Nat.le_trans hs (Nat.le_of_eq hW77.size.symm)
            replace o_x2 := hW77.here
            refine L_as (L_nil (thenQ_normal (W_ret (thenQ_ret ?_))))
            refine end_ret [.cell 2 29, .tmp 3] [(Value.agg #[(.int .i32 0), (.int .i32 0)]), (.int .i64 41)] rfl hds ⟨⟨⟨b1, 0, none⟩, by kernel_rfl, load_agg [(.int .i32 0), (.int .i32 0)] (by kernel_rfl) (by kernel_rfl) (cells_obj o_x2)⟩, by kernel_rfl, trivial⟩ ?_
            have hE : ((Value.agg #[(.int .i32 0), (.int .i32 0)]) = (Value.agg #[(.int .i32 ((spanF s).1)), (.int .i32 ((spanF s).2.1))])) ∧ ((41 : Int) = (spanF s).2.2) := ⟨(by first | (rw [span_none (at_none i3 (by omega) (by omega))]; simp [*]; done) | (rw [span_some (at_some i3 (by omega)).1, show a.toNat + 2 = (a + 2).toNat by omega]; simp [*]; done) | (rw [span_some (at_some i3 (by omega)).1, show a.toNat + 2 = (a + 2).toNat by omega]; rw [if_neg (by simp [*]), if_neg (by omega)]; done)), (by first | (rw [span_none (at_none i3 (by omega) (by omega))]; simp [*]; done) | (rw [span_some (at_some i3 (by omega)).1, show a.toNat + 2 = (a + 2).toNat by omega]; simp [*]; done) | (rw [span_some (at_some i3 (by omega)).1, show a.toNat + 2 = (a + 2).toNat by omega]; rw [if_neg (by simp [*]), if_neg (by omega)]; done))⟩
            exact ⟨tup2 (hE.1) (congrArg (Value.int .i64) hE.2), hb⟩
          · intro h78
            replace h78 : (hexF (List.take ((a).toNat) s)).1 ≤ (hexF (List.drop (((a + 2)).toNat) s)).1 := by omega
            refine L_nil (thenQ_normal (W_false (by kernel_rfl) (W_skip (thenQ_normal (W_seq (W_region (L_mv (L_mv (L_run (Value.agg #[(.int .i32 ((hexF (List.take ((a).toNat) s)).1)), (.int .i32 ((hexF (List.drop (((a + 2)).toNat) s)).1))]) (by kernel_rfl) (by kernel_rfl) (L_storeA b1 0 [(.int .i32 ((hexF (List.take ((a).toNat) s)).1)), (.int .i32 ((hexF (List.drop (((a + 2)).toNat) s)).1))] [(.int .i32 0), (.int .i32 0)] [(.int .i32 ((hexF (List.take ((a).toNat) s)).1)), (.int .i32 ((hexF (List.drop (((a + 2)).toNat) s)).1))] 29 (by kernel_rfl) (by kernel_rfl) rfl (by kernel_rfl) o_x2 (by kernel_rfl) rfl ?_))))))))))
            intro w79 hW80
            replace hb := hb.trans (hW80.below g_x2)
            replace hs := Nat.le_trans hs (Nat.le_of_eq hW80.size.symm)
            replace o_x2 := hW80.here
            refine L_as (L_nil (thenQ_normal (W_ret ?_)))
            refine end_ret [.cell 2 29, .tmp 3] [(Value.agg #[(.int .i32 ((hexF (List.take ((a).toNat) s)).1)), (.int .i32 ((hexF (List.drop (((a + 2)).toNat) s)).1))]), (.int .i64 0)] rfl hds ⟨⟨⟨b1, 0, none⟩, by kernel_rfl, load_agg [(.int .i32 ((hexF (List.take ((a).toNat) s)).1)), (.int .i32 ((hexF (List.drop (((a + 2)).toNat) s)).1))] (by kernel_rfl) (by kernel_rfl) (cells_obj o_x2)⟩, by kernel_rfl, trivial⟩ ?_
            have hE : ((Value.agg #[(.int .i32 ((hexF (List.take ((a).toNat) s)).1)), (.int .i32 ((hexF (List.drop (((a + 2)).toNat) s)).1))]) = (Value.agg #[(.int .i32 ((spanF s).1)), (.int .i32 ((spanF s).2.1))])) ∧ ((0 : Int) = (spanF s).2.2) := ⟨(by first | (rw [span_none (at_none i3 (by omega) (by omega))]; simp [*]; done) | (rw [span_some (at_some i3 (by omega)).1, show a.toNat + 2 = (a + 2).toNat by omega]; simp [*]; done) | (rw [span_some (at_some i3 (by omega)).1, show a.toNat + 2 = (a + 2).toNat by omega]; rw [if_neg (by simp [*]), if_neg (by omega)]; done)), (by first | (rw [span_none (at_none i3 (by omega) (by omega))]; simp [*]; done) | (rw [span_some (at_some i3 (by omega)).1, show a.toNat + 2 = (a + 2).toNat by omega]; simp [*]; done) | (rw [span_some (at_some i3 (by omega)).1, show a.toNat + 2 = (a + 2).toNat by omega]; rw [if_neg (by simp [*]), if_neg (by omega)]; done))⟩
            exact ⟨tup2 (hE.1) (congrArg (Value.int .i64) hE.2), hb⟩

theorem c_slices_Reverse {B_ E_ : Nat} (v_s : Value) (s : List (Int)) (w : World) (p_s : Row w B_ E_ 1 encU8 v_s s)  :
    Calls Try.prog 84 #[v_s] w (Ret fun v w' => v = (.tuple #[]) ∧ Row w' B_ E_ 1 encU8 v_s (List.reverse s) ∧ w.grownBy w' (Value.ownBlock v_s)) :=
  reverse_contract (fun x : Int => Value.int .u8 x) (fun _ => rfl) (AnyE.slices_Reverse_empty laysRev) (AnyE.slices_Reverse laysRev _ (fun _ => rfl)) v_s s w p_s

set_option maxHeartbeats 4000000 in
set_option maxRecDepth 100000 in
theorem c_points_Show (r : Int) (w : World) :
    Calls Try.prog 33 #[(.int .i32 r)] w (Ret fun v w' => v = (.tuple #[(S ((showF r).1)), (.int .i64 ((showF r).2))]) ∧ Below w.heap.size w w') := by
  refine enter (args := [(.int .i32 r)]) Try.func33 rfl (by kernel_rfl : _ = 32) (by kernel_rfl) ?_
  have hb := Below.refl w.heap.size w
  have hs : w.heap.size ≤ w.heap.size := Nat.le_refl _
  refine W_seq (W_region (L_as (L_as (L_nil (thenQ_normal (W_seq (W_seq (W_region (L_mv (L_cmp .i32 r 0 (r < 0) rfl (cmp_lt r 0) (by kernel_rfl) (by kernel_rfl) ?_ ?_))))))))))
  · intro h1
    replace h1 : r < 0 := by omega
    refine L_mv (L_skip (by kernel_rfl) (L_skip (by kernel_rfl) (L_pickT (by kernel_rfl) (L_nil (thenQ_normal (W_true (by kernel_rfl) (W_seq (W_region (L_as (L_as (L_nil (thenQ_normal (W_ret (thenQ_ret ?_))))))))))))))
    refine end_ret [.tmp 2, .tmp 3] [(S ([] : List UInt8)), (.int .i64 40)] rfl rfl ⟨by kernel_rfl, by kernel_rfl, trivial⟩ ?_
    have hE : (([] : List UInt8) = (showF r).1) ∧ ((40 : Int) = (showF r).2) := ⟨(by first | (rw [showF_bad (by omega)]; done) | (rw [showF_ok (by omega) (by omega)]; first | done | exact show_endR i1 i2 i3 (by omega) (by omega))), (by first | (rw [showF_bad (by omega)]; done) | (rw [showF_ok (by omega) (by omega)]; first | done | exact show_endR i1 i2 i3 (by omega) (by omega)))⟩
    exact ⟨tup2 (congrArg S hE.1) (congrArg (Value.int .i64) hE.2), hb⟩
  · intro h2
    replace h2 : 0 ≤ r := by omega
    refine L_mv (L_want (by kernel_rfl) (L_mv (L_want (by kernel_rfl) (L_cmp .i32 r 1114111 (1114111 < r) rfl (cmp_gt r 1114111) (by kernel_rfl) (by kernel_rfl) ?_ ?_))))
    · intro h3
      replace h3 : 1114111 < r := by omega
      refine L_pickF (by kernel_rfl) (L_nil (thenQ_normal (W_true (by kernel_rfl) (W_seq (W_region (L_as (L_as (L_nil (thenQ_normal (W_ret (thenQ_ret ?_)))))))))))
      refine end_ret [.tmp 2, .tmp 3] [(S ([] : List UInt8)), (.int .i64 40)] rfl rfl ⟨by kernel_rfl, by kernel_rfl, trivial⟩ ?_
      have hE : (([] : List UInt8) = (showF r).1) ∧ ((40 : Int) = (showF r).2) := ⟨(by first | (rw [showF_bad (by omega)]; done) | (rw [showF_ok (by omega) (by omega)]; first | done | exact show_endR i1 i2 i3 (by omega) (by omega))), (by first | (rw [showF_bad (by omega)]; done) | (rw [showF_ok (by omega) (by omega)]; first | done | exact show_endR i1 i2 i3 (by omega) (by omega)))⟩
      exact ⟨tup2 (congrArg S hE.1) (congrArg (Value.int .i64) hE.2), hb⟩
    · intro h4
      replace h4 : r ≤ 1114111 := by omega
      refine L_pickF (by kernel_rfl) (L_nil (thenQ_normal (W_false (by kernel_rfl) (W_skip (thenQ_normal (W_seq (W_region (L_as (L_nil (thenQ_normal (W_seq (W_seq (W_region (L_mv (L_as (L_nil (thenQ_normal (W_block ?_))))))))))))))))))
      refine W_loop (fun m s0 w0 => ∃ (acc : List Int) (z : Int) (v_4 : Value), (m = 10 - acc.length) ∧ (s0.ds = []) ∧ (s0.f 2 = (S ([] : List UInt8))) ∧ (s0.f 3 = (.int .i64 0)) ∧ (s0.f 4 = v_4) ∧ (s0.f 5 = (.int .i32 z)) ∧ (Row w0 w.heap.size 5 1 encU8 v_4 acc) ∧ (Below w.heap.size w w0) ∧ (w.heap.size ≤ w0.heap.size) ∧ (acc.length ≤ cntD r.toNat) ∧ (z = ((r.toNat / 16 ^ acc.length : Nat) : Int)) ∧ (acc = lowB (digsD r.toNat acc.length))) _ ⟨[], r, (.slice none 0 0), rfl, by kernel_rfl, by kernel_rfl, by kernel_rfl, by kernel_rfl, by kernel_rfl, Row.nil _ _ _ _ _, hb, hs, Nat.zero_le _, by simp; omega, rfl⟩ ?_
      rintro m5 s6 w7 ⟨acc, z, v_4, hm, hds, f_2, f_3, f_4, f_5, r_4, hb, hs, i1, i2, i3⟩
      refine W_set 2 _ f_2 (W_set 3 _ f_3 (W_set 4 _ f_4 (W_set 5 _ f_5 ?_)))
      clear f_2 f_3 f_4 f_5
      have hcd := cntD_le r.toNat
      have hfz := show_factsR i1 i2 (by omega)
      refine W_seq (W_seq (W_region (L_mv (L_cmp .i32 z 0 (0 < z) rfl (cmp_gt z 0) (by kernel_rfl) (by kernel_rfl) ?_ ?_))))
      · intro h8
        replace h8 : 0 < z := by omega
        refine L_mv (L_skip (by kernel_rfl) (L_skip (by kernel_rfl) (L_skip (by kernel_rfl) (L_pickT (by kernel_rfl) (L_nil (thenQ_normal (W_true (by kernel_rfl) (W_skip (thenQ_normal (W_seq (W_block (W_region (L_mv (L_mv (L_and15 z z.toNat (by omega) (by kernel_rfl) (by kernel_rfl) ?_)))))))))))))))
        have hz := get_some ([48, 49, 50, 51, 52, 53, 54, 55, 56, 57, 65, 66, 67, 68, 69, 70] : List UInt8) (z.toNat % 16) (by first | omega | (rw [show (([48, 49, 50, 51, 52, 53, 54, 55, 56, 57, 65, 66, 67, 68, 69, 70] : List UInt8)).length = 16 from rfl]; omega)); obtain ⟨c9, hc10⟩ := hz
        have := c9.toNat_lt
        refine L_sindex (k := .i32) ([48, 49, 50, 51, 52, 53, 54, 55, 56, 57, 65, 66, 67, 68, 69, 70] : List UInt8) (z.toNat % 16) c9 Try.underlying9 hc10 (by kernel_rfl) (by kernel_rfl) (L_app el143 w.heap.size v_4 acc ((c9.toNat : Nat) : Int) hs r_4 (by omega) (by kernel_rfl) rfl rfl (by kernel_rfl) rfl (by kernel_rfl) (by kernel_rfl) ?_)
        intro v11 w12 hr13 hg14 how15
        replace hb := hb.grown hg14 hs (fun k hk => (World.ownsRow.lt r_4 k hk).1)
        replace hs := Nat.le_trans hs (hg14.size)
        replace r_4 := hr13
        refine L_as (L_nil (blkQ_normal (thenQ_normal (W_region (L_mv (L_shr (k := .i32) (yk := .u64) z 4 16 rfl (by kernel_rfl) (by kernel_rfl) (by kernel_rfl) (L_as (L_nil ?_))))))))
        refine thenQ_normal ⟨_, ?_, (acc ++ [((c9.toNat : Nat) : Int)]), (z / 16), v11, rfl, hds, by kernel_rfl, by kernel_rfl, by kernel_rfl, by kernel_rfl, r_4, hb, hs, ?_, ?_, ?_⟩
        · simp; omega
        · simp; omega
        · exact (show_stepR i2 i3 (by assumption)).1
        · exact (show_stepR i2 i3 (by assumption)).2
      · intro h16
        replace h16 : z ≤ 0 := by omega
        refine L_mv (L_want (by kernel_rfl) (L_mv (L_want (by kernel_rfl) (L_len 143 5 (acc).length v_4 rfl Try.underlying143 (r_4.rd).len (by kernel_rfl) (L_want (by kernel_rfl) (L_cmp .i64 (((acc).length : Nat) : Int) ((4 : Nat) : Int) ((acc).length < 4) rfl (cmpN_lt ((acc).length) 4) (by kernel_rfl) (by kernel_rfl) ?_ ?_))))))
        · intro h17
          replace h17 : (acc).length < 4 := by omega
          refine L_pickF (by kernel_rfl) (L_nil (thenQ_normal (W_true (by kernel_rfl) (W_skip (thenQ_normal (W_seq (W_block (W_region (L_mv (L_mv (L_and15 z z.toNat (by omega) (by kernel_rfl) (by kernel_rfl) ?_)))))))))))
          have hz := get_some ([48, 49, 50, 51, 52, 53, 54, 55, 56, 57, 65, 66, 67, 68, 69, 70] : List UInt8) (z.toNat % 16) (by first | omega | (rw [show (([48, 49, 50, 51, 52, 53, 54, 55, 56, 57, 65, 66, 67, 68, 69, 70] : List UInt8)).length = 16 from rfl]; omega)); obtain ⟨c18, hc19⟩ := hz
          have := c18.toNat_lt
          refine L_sindex (k := .i32) ([48, 49, 50, 51, 52, 53, 54, 55, 56, 57, 65, 66, 67, 68, 69, 70] : List UInt8) (z.toNat % 16) c18 Try.underlying9 hc19 (by kernel_rfl) (by kernel_rfl) (L_app el143 w.heap.size v_4 acc ((c18.toNat : Nat) : Int) hs r_4 (by omega) (by kernel_rfl) rfl rfl (by kernel_rfl) rfl (by kernel_rfl) (by kernel_rfl) ?_)
          intro v20 w21 hr22 hg23 how24
          replace hb := hb.grown hg23 hs (fun k hk => (World.ownsRow.lt r_4 k hk).1)
          replace hs := Nat.le_trans hs (hg23.size)
          replace r_4 := hr22
          refine L_as (L_nil (blkQ_normal (thenQ_normal (W_region (L_mv (L_shr (k := .i32) (yk := .u64) z 4 16 rfl (by kernel_rfl) (by kernel_rfl) (by kernel_rfl) (L_as (L_nil ?_))))))))
          refine thenQ_normal ⟨_, ?_, (acc ++ [((c18.toNat : Nat) : Int)]), (z / 16), v20, rfl, hds, by kernel_rfl, by kernel_rfl, by kernel_rfl, by kernel_rfl, r_4, hb, hs, ?_, ?_, ?_⟩
          · simp; omega
          · simp; omega
          · exact (show_stepR i2 i3 (by assumption)).1
          · exact (show_stepR i2 i3 (by assumption)).2
        · intro h25
          replace h25 : 4 ≤ (acc).length := by omega
          refine L_pickF (by kernel_rfl) (L_nil (thenQ_normal (W_false (by kernel_rfl) (W_exit (thenQ_exit (thenQ_exit (blkQ_exit (thenQ_normal (W_seq (W_region (L_mv (L_call 84 [v_4] (by kernel_rfl) (by kernel_rfl) (c_slices_Reverse v_4 acc _ r_4 ) ?_))))))))))))
          rintro _ w26 ⟨rfl, hr27, hg28⟩
          replace hb := hb.grown hg28 hs (fun k hk => (World.ownsRow.lt r_4 k hk).1)
          replace hs := Nat.le_trans hs (hg28.size)
          replace r_4 := hr27
          refine L_nil (thenQ_normal (W_seq (W_region (L_mv (L_bytesStr v_4 (List.reverse acc) Try.underlying143 Try.underlying5 Try.underlying9 (by kernel_rfl) r_4.rd (L_as (L_as (L_nil (thenQ_normal (W_ret ?_))))))))))
          refine end_ret [.tmp 2, .tmp 3] [(S (bytesI (List.reverse acc))), (.int .i64 0)] rfl hds ⟨by kernel_rfl, by kernel_rfl, trivial⟩ ?_
          have hE : ((bytesI (List.reverse acc)) = (showF r).1) ∧ ((0 : Int) = (showF r).2) := ⟨(by first | (rw [showF_bad (by omega)]; done) | (rw [showF_ok (by omega) (by omega)]; first | done | exact show_endR i1 i2 i3 (by omega) (by omega))), (by first | (rw [showF_bad (by omega)]; done) | (rw [showF_ok (by omega) (by omega)]; first | done | exact show_endR i1 i2 i3 (by omega) (by omega)))⟩
          exact ⟨tup2 (congrArg S hE.1) (congrArg (Value.int .i64) hE.2), hb⟩

set_option maxHeartbeats 4000000 in
set_option maxRecDepth 100000 in
theorem c_points_ShowSpan (lo : Int) (hi : Int) (w : World) :
    Calls Try.prog 39 #[(Value.agg #[(.int .i32 lo), (.int .i32 hi)])] w (Ret fun v w' => v = (.tuple #[(S ((showSpanF lo hi).1)), (.int .i64 ((showSpanF lo hi).2))]) ∧ Below w.heap.size w w') := by
  refine enter (args := [(Value.agg #[(.int .i32 lo), (.int .i32 hi)])]) Try.func39 rfl (by kernel_rfl : _ = 33) (by kernel_rfl) ?_
  have hb := Below.refl w.heap.size w
  have hs : w.heap.size ≤ w.heap.size := Nat.le_refl _
  have hl1 := showF_len lo
  have hl2 := showF_len hi
  refine W_seq (W_region (L_new (fun b => .pointer (some ⟨b, 0, none⟩)) (.cells [(.int .i32 lo), (.int .i32 hi)].toArray 29 (0, 0)) (by kernel_rfl) (by kernel_rfl) ?_))
  intro b1 w2 hN3
  have g_x1 : w.heap.size ≤ b1 := by rw [hN3.num]; exact hs
  replace hb := hb.trans (hN3.below.mono hs)
  replace hs := Nat.le_trans hs (hN3.below.size)
  have o_x1 := hN3.here
  refine L_as (L_as (L_nil (thenQ_normal (W_seq (W_seq (W_region (L_loadA b1 0 [(.int .i32 lo), (.int .i32 hi)] (by kernel_rfl) (by kernel_rfl) (by kernel_rfl) (cells_at o_x1 0 (by kernel_rfl)) (L_call 35 [(Value.agg #[(.int .i32 lo), (.int .i32 hi)])] (by kernel_rfl) (by kernel_rfl) (c_points_May lo hi _ ) ?_))))))))
  rintro _ w4 ⟨rfl, hB5⟩
  replace hb := hb.trans (hB5.mono hs)
  replace hs := Nat.le_trans hs (hB5.size)
  replace o_x1 := obj_below o_x1 hB5
  refine put_split (mayF lo hi) ?_ ?_
  · intro h7
    refine L_not true (by kernel_rfl) (L_nil (thenQ_normal (W_false (by kernel_rfl) (W_skip (thenQ_normal (W_seq (W_region (L_run (.pointer (some ⟨b1, 0, none⟩)) (by kernel_rfl) (by kernel_rfl) (L_load b1 0 (.int .i32 lo) (by kernel_rfl) (by kernel_rfl) (cell_obj o_x1 rfl) (L_call 33 [(.int .i32 lo)] (by kernel_rfl) (by kernel_rfl) (c_points_Show lo _ ) ?_))))))))))
    rintro _ w8 ⟨rfl, hB9⟩
    replace hb := hb.trans (hB9.mono hs)
    replace hs := Nat.le_trans hs (hB9.size)
    replace o_x1 := obj_below o_x1 hB9
    refine L_mv (L_run (S ((showF lo).1)) (by kernel_rfl) (by kernel_rfl) (L_run (.int .i64 ((showF lo).2)) (by kernel_rfl) (by kernel_rfl) (L_as (L_as (L_nil (thenQ_normal (W_seq (W_seq (W_region (L_run (.pointer (some ⟨b1, 0, none⟩)) (by kernel_rfl) (by kernel_rfl) (L_load b1 0 (.int .i32 lo) (by kernel_rfl) (by kernel_rfl) (cell_obj o_x1 rfl) (L_run (.pointer (some ⟨b1, 1, none⟩)) (by kernel_rfl) (by kernel_rfl) (L_load b1 1 (.int .i32 hi) (by kernel_rfl) (by kernel_rfl) (cell_obj o_x1 rfl) (L_cmp .i32 lo hi (lo = hi) rfl (cmp_eq lo hi) (by kernel_rfl) (by kernel_rfl) ?_ ?_))))))))))))))
    · intro h11
      replace h11 : lo = hi := by omega
      refine L_nil (thenQ_normal (W_true (by kernel_rfl) (W_seq (W_region (L_mv (L_as (L_as (L_nil (thenQ_normal (W_ret (thenQ_ret ?_)))))))))))
      refine end_ret [.tmp 2, .tmp 3] [(S ((showF lo).1)), (.int .i64 0)] rfl rfl ⟨by kernel_rfl, by kernel_rfl, trivial⟩ ?_
      have hE : ((showF lo).1 = (showSpanF lo hi).1) ∧ ((0 : Int) = (showSpanF lo hi).2) := ⟨(by first | (rw [showSpan_bad (by assumption)]; done) | (rw [showSpan_one (by assumption) (by assumption)]; done) | (rw [showSpan_two (by assumption) (by assumption)]; done)), (by first | (rw [showSpan_bad (by assumption)]; done) | (rw [showSpan_one (by assumption) (by assumption)]; done) | (rw [showSpan_two (by assumption) (by assumption)]; done))⟩
      exact ⟨tup2 (congrArg S hE.1) (congrArg (Value.int .i64) hE.2), hb⟩
    · intro h12
      replace h12 : lo ≠ hi := by omega
      refine L_nil (thenQ_normal (W_false (by kernel_rfl) (W_skip (thenQ_normal (W_seq (W_region (L_run (.pointer (some ⟨b1, 1, none⟩)) (by kernel_rfl) (by kernel_rfl) (L_load b1 1 (.int .i32 hi) (by kernel_rfl) (by kernel_rfl) (cell_obj o_x1 rfl) (L_call 33 [(.int .i32 hi)] (by kernel_rfl) (by kernel_rfl) (c_points_Show hi _ ) ?_)))))))))
      rintro _ w13 ⟨rfl, hB14⟩
      replace hb := hb.trans (hB14.mono hs)
      replace hs := Nat.le_trans hs (hB14.size)
      replace o_x1 := obj_below o_x1 hB14
      refine L_mv (L_run (S ((showF hi).1)) (by kernel_rfl) (by kernel_rfl) (L_run (.int .i64 ((showF hi).2)) (by kernel_rfl) (by kernel_rfl) (L_as (L_as (L_nil (thenQ_normal (W_seq (W_region (L_mv (L_sadd ((showF lo).1) ([46, 46] : List UInt8) (by first | omega | (simp only [List.length_append, List.length_cons, List.length_nil]; omega) | (simp only [bytesI, List.length_map, List.length_append, List.length_cons, List.length_nil]; omega)) (by kernel_rfl) (by kernel_rfl) (L_mv (L_sadd ((showF lo).1 ++ ([46, 46] : List UInt8)) ((showF hi).1) (by first | omega | (simp only [List.length_append, List.length_cons, List.length_nil]; omega) | (simp only [bytesI, List.length_map, List.length_append, List.length_cons, List.length_nil]; omega)) (by kernel_rfl) (by kernel_rfl) (L_as (L_as (L_nil (thenQ_normal (W_ret ?_)))))))))))))))))
      refine end_ret [.tmp 2, .tmp 3] [(S (((showF lo).1 ++ ([46, 46] : List UInt8)) ++ (showF hi).1)), (.int .i64 0)] rfl rfl ⟨by kernel_rfl, by kernel_rfl, trivial⟩ ?_
      have hE : ((((showF lo).1 ++ ([46, 46] : List UInt8)) ++ (showF hi).1) = (showSpanF lo hi).1) ∧ ((0 : Int) = (showSpanF lo hi).2) := ⟨(by first | (rw [showSpan_bad (by assumption)]; done) | (rw [showSpan_one (by assumption) (by assumption)]; done) | (rw [showSpan_two (by assumption) (by assumption)]; done)), (by first | (rw [showSpan_bad (by assumption)]; done) | (rw [showSpan_one (by assumption) (by assumption)]; done) | (rw [showSpan_two (by assumption) (by assumption)]; done))⟩
      exact ⟨tup2 (congrArg S hE.1) (congrArg (Value.int .i64) hE.2), hb⟩
  · intro h16
    refine L_not false (by kernel_rfl) (L_nil (thenQ_normal (W_true (by kernel_rfl) (W_seq (W_region (L_as (L_as (L_nil (thenQ_normal (W_ret (thenQ_ret ?_)))))))))))
    refine end_ret [.tmp 2, .tmp 3] [(S ([] : List UInt8)), (.int .i64 41)] rfl rfl ⟨by kernel_rfl, by kernel_rfl, trivial⟩ ?_
    have hE : (([] : List UInt8) = (showSpanF lo hi).1) ∧ ((41 : Int) = (showSpanF lo hi).2) := ⟨(by first | (rw [showSpan_bad (by assumption)]; done) | (rw [showSpan_one (by assumption) (by assumption)]; done) | (rw [showSpan_two (by assumption) (by assumption)]; done)), (by first | (rw [showSpan_bad (by assumption)]; done) | (rw [showSpan_one (by assumption) (by assumption)]; done) | (rw [showSpan_two (by assumption) (by assumption)]; done))⟩
    exact ⟨tup2 (congrArg S hE.1) (congrArg (Value.int .i64) hE.2), hb⟩

theorem c_strings_Cut (s : List UInt8) (sep : List UInt8) (w : World) {m_ml : Int} (hml : w.cell? ⟨0, 0, none⟩ = some (.int .i64 m_ml)) (hs : s.length ≤ 1073741824) :
    Calls Try.prog 85 #[(S s), (S sep)] w (Ret fun v w' => v = (.tuple #[(S ((Lib.cut s sep).1)), (S ((Lib.cut s sep).2.1)), (.bool ((Lib.cut s sep).2.2))]) ∧ Below w.heap.size w w') :=
  cut_contract Try.strings_Cut s sep w hml hs

set_option maxHeartbeats 4000000 in
set_option maxRecDepth 100000 in
theorem c_points_Span (s : List UInt8) (w : World) {m_ml : Int} (hml : w.cell? ⟨0, 0, none⟩ = some (.int .i64 m_ml)) (hs : s.length ≤ 1073741824) :
    Calls Try.prog 37 #[(S s)] w (Ret fun v w' => v = (.tuple #[(Value.agg #[(.int .i32 ((spanF s).1)), (.int .i32 ((spanF s).2.1))]), (.int .i64 ((spanF s).2.2))]) ∧ Below w.heap.size w w') := by
  refine enter (args := [(S s)]) Try.func37 rfl (by kernel_rfl : _ = 46) (by kernel_rfl) ?_
  have hb := Below.refl w.heap.size w
  have hs : w.heap.size ≤ w.heap.size := Nat.le_refl _
  refine W_seq (W_region (L_new (fun b => .pointer (some ⟨b, 0, none⟩)) (.cells [(.int .i32 0), (.int .i32 0)].toArray 29 (0, 0)) (by kernel_rfl) (by kernel_rfl) ?_))
  intro b1 w2 hN3
  have g_x2 : w.heap.size ≤ b1 := by rw [hN3.num]; exact hs
  replace hb := hb.trans (hN3.below.mono hs)
  replace hs := Nat.le_trans hs (hN3.below.size)
  have o_x2 := hN3.here
  refine L_as (L_nil (thenQ_normal (W_seq (W_region (L_mv (L_call 85 [(S s), (S ([46, 46] : List UInt8))] (by kernel_rfl) (by kernel_rfl) (c_strings_Cut s ([46, 46] : List UInt8) _ (gcell_below hml hb) (by omega)) ?_))))))
  rintro _ w4 ⟨rfl, hB5⟩
  replace hb := hb.trans (hB5.mono hs)
  replace hs := Nat.le_trans hs (hB5.size)
  replace o_x2 := obj_below o_x2 hB5
  have := cut_len s ([46, 46] : List UInt8)
  refine L_mv (L_run (S ((Lib.cut s ([46, 46] : List UInt8)).1)) (by kernel_rfl) (by kernel_rfl) (L_run (S ((Lib.cut s ([46, 46] : List UInt8)).2.1)) (by kernel_rfl) (by kernel_rfl) (L_run (.bool ((Lib.cut s ([46, 46] : List UInt8)).2.2)) (by kernel_rfl) (by kernel_rfl) (L_as (L_as (L_as (L_nil (thenQ_normal (W_seq (W_region (L_mv (L_call 31 [(S ((Lib.cut s ([46, 46] : List UInt8)).1))] (by kernel_rfl) (by kernel_rfl) (c_points_Hex ((Lib.cut s ([46, 46] : List UInt8)).1) _ (by omega)) ?_))))))))))))
  rintro _ w7 ⟨rfl, hB8⟩
  replace hb := hb.trans (hB8.mono hs)
  replace hs := Nat.le_trans hs (hB8.size)
  replace o_x2 := obj_below o_x2 hB8
  refine L_mv (L_run (.int .i32 ((hexF ((Lib.cut s ([46, 46] : List UInt8)).1)).1)) (by kernel_rfl) (by kernel_rfl) (L_run (.int .i64 ((hexF ((Lib.cut s ([46, 46] : List UInt8)).1)).2)) (by kernel_rfl) (by kernel_rfl) (L_as (L_as (L_nil (thenQ_normal (W_seq (W_seq (W_region (L_mv (L_cmp .i64 ((hexF ((Lib.cut s ([46, 46] : List UInt8)).1)).2) 0 ((hexF ((Lib.cut s ([46, 46] : List UInt8)).1)).2 ≠ 0) rfl (cmp_ne ((hexF ((Lib.cut s ([46, 46] : List UInt8)).1)).2) 0) (by kernel_rfl) (by kernel_rfl) ?_ ?_)))))))))))
  · intro h10
    replace h10 : (hexF ((Lib.cut s ([46, 46] : List UInt8)).1)).2 ≠ 0 := by omega
    refine L_nil (thenQ_normal (W_true (by kernel_rfl) (W_seq (W_region (L_run (Value.agg #[(.int .i32 0), (.int .i32 0)]) (by kernel_rfl) (by kernel_rfl) (L_mv (L_storeA b1 0 [(.int .i32 0), (.int .i32 0)] [(.int .i32 0), (.int .i32 0)] [(.int .i32 0), (.int .i32 0)] 29 (by kernel_rfl) (by kernel_rfl) rfl (by kernel_rfl) o_x2 (by kernel_rfl) rfl ?_)))))))
    intro w11 hW12
    replace hb := hb.trans (hW12.below g_x2)
    replace hs := Nat.le_trans hs (Nat.le_of_eq hW12.size.symm)
    replace o_x2 := hW12.here
    refine L_as (L_nil (thenQ_normal (W_ret (thenQ_ret ?_))))
    refine end_ret [.cell 2 29, .tmp 3] [(Value.agg #[(.int .i32 0), (.int .i32 0)]), (.int .i64 ((hexF ((Lib.cut s ([46, 46] : List UInt8)).1)).2))] rfl rfl ⟨⟨⟨b1, 0, none⟩, by kernel_rfl, load_agg [(.int .i32 0), (.int .i32 0)] (by kernel_rfl) (by kernel_rfl) (cells_obj o_x2)⟩, by kernel_rfl, trivial⟩ ?_
    have hE : ((Value.agg #[(.int .i32 0), (.int .i32 0)]) = (Value.agg #[(.int .i32 ((spanF s).1)), (.int .i32 ((spanF s).2.1))])) ∧ (((hexF ((Lib.cut s ([46, 46] : List UInt8)).1)).2 : Int) = (spanF s).2.2) := ⟨(by first | (rw [span_cut, if_pos (by omega)]; done) | (rw [span_cut, if_neg (by omega), if_pos (nt (by assumption))]; done) | (rw [span_cut, if_neg (by omega), if_neg (nf (by assumption)), if_pos (by omega)]; done) | (rw [span_cut, if_neg (by omega), if_neg (nf (by assumption)), if_neg (by omega), if_pos (by omega)]; done) | (rw [span_cut, if_neg (by omega), if_neg (nf (by assumption)), if_neg (by omega), if_neg (by omega)]; done)), (by first | (rw [span_cut, if_pos (by omega)]; done) | (rw [span_cut, if_neg (by omega), if_pos (nt (by assumption))]; done) | (rw [span_cut, if_neg (by omega), if_neg (nf (by assumption)), if_pos (by omega)]; done) | (rw [span_cut, if_neg (by omega), if_neg (nf (by assumption)), if_neg (by omega), if_pos (by omega)]; done) | (rw [span_cut, if_neg (by omega), if_neg (nf (by assumption)), if_neg (by omega), if_neg (by omega)]; done))⟩
    exact ⟨tup2 (hE.1) (congrArg (Value.int .i64) hE.2), hb⟩
  · intro h13
    replace h13 : (hexF ((Lib.cut s ([46, 46] : List UInt8)).1)).2 = 0 := by omega
    refine L_nil (thenQ_normal (W_false (by kernel_rfl) (W_skip (thenQ_normal (W_seq (W_seq (W_region (L_mv (L_not ((Lib.cut s ([46, 46] : List UInt8)).2.2) (by kernel_rfl) (L_nil (thenQ_normal ?_)))))))))))
    rcases Bool.eq_false_or_eq_true (!((Lib.cut s ([46, 46] : List UInt8)).2.2)) with hc14 | hc14
    · skip
      refine W_ifT hc14 (by kernel_rfl) (W_seq (W_region (L_mv (L_mv (L_run (Value.agg #[(.int .i32 ((hexF ((Lib.cut s ([46, 46] : List UInt8)).1)).1)), (.int .i32 ((hexF ((Lib.cut s ([46, 46] : List UInt8)).1)).1))]) (by kernel_rfl) (by kernel_rfl) (L_storeA b1 0 [(.int .i32 ((hexF ((Lib.cut s ([46, 46] : List UInt8)).1)).1)), (.int .i32 ((hexF ((Lib.cut s ([46, 46] : List UInt8)).1)).1))] [(.int .i32 0), (.int .i32 0)] [(.int .i32 ((hexF ((Lib.cut s ([46, 46] : List UInt8)).1)).1)), (.int .i32 ((hexF ((Lib.cut s ([46, 46] : List UInt8)).1)).1))] 29 (by kernel_rfl) (by kernel_rfl) rfl (by kernel_rfl) o_x2 (by kernel_rfl) rfl ?_))))))
      intro w15 hW16
      replace hb := hb.trans (hW16.below g_x2)
      replace hs := Nat.le_trans hs (Nat.le_of_eq hW16.size.symm)
      replace o_x2 := hW16.here
      refine L_as (L_nil (thenQ_normal (W_ret (thenQ_ret ?_))))
      refine end_ret [.cell 2 29, .tmp 3] [(Value.agg #[(.int .i32 ((hexF ((Lib.cut s ([46, 46] : List UInt8)).1)).1)), (.int .i32 ((hexF ((Lib.cut s ([46, 46] : List UInt8)).1)).1))]), (.int .i64 0)] rfl rfl ⟨⟨⟨b1, 0, none⟩, by kernel_rfl, load_agg [(.int .i32 ((hexF ((Lib.cut s ([46, 46] : List UInt8)).1)).1)), (.int .i32 ((hexF ((Lib.cut s ([46, 46] : List UInt8)).1)).1))] (by kernel_rfl) (by kernel_rfl) (cells_obj o_x2)⟩, by kernel_rfl, trivial⟩ ?_
      have hE : ((Value.agg #[(.int .i32 ((hexF ((Lib.cut s ([46, 46] : List UInt8)).1)).1)), (.int .i32 ((hexF ((Lib.cut s ([46, 46] : List UInt8)).1)).1))]) = (Value.agg #[(.int .i32 ((spanF s).1)), (.int .i32 ((spanF s).2.1))])) ∧ ((0 : Int) = (spanF s).2.2) := ⟨(by first | (rw [span_cut, if_pos (by omega)]; done) | (rw [span_cut, if_neg (by omega), if_pos (nt (by assumption))]; done) | (rw [span_cut, if_neg (by omega), if_neg (nf (by assumption)), if_pos (by omega)]; done) | (rw [span_cut, if_neg (by omega), if_neg (nf (by assumption)), if_neg (by omega), if_pos (by omega)]; done) | (rw [span_cut, if_neg (by omega), if_neg (nf (by assumption)), if_neg (by omega), if_neg (by omega)]; done)), (by first | (rw [span_cut, if_pos (by omega)]; done) | (rw [span_cut, if_neg (by omega), if_pos (nt (by assumption))]; done) | (rw [span_cut, if_neg (by omega), if_neg (nf (by assumption)), if_pos (by omega)]; done) | (rw [span_cut, if_neg (by omega), if_neg (nf (by assumption)), if_neg (by omega), if_pos (by omega)]; done) | (rw [span_cut, if_neg (by omega), if_neg (nf (by assumption)), if_neg (by omega), if_neg (by omega)]; done))⟩
      exact ⟨tup2 (hE.1) (congrArg (Value.int .i64) hE.2), hb⟩
    · skip
      refine W_ifF hc14 (by kernel_rfl) (W_skip (thenQ_normal (W_seq (W_region (L_mv (L_call 31 [(S ((Lib.cut s ([46, 46] : List UInt8)).2.1))] (by kernel_rfl) (by kernel_rfl) (c_points_Hex ((Lib.cut s ([46, 46] : List UInt8)).2.1) _ (by omega)) ?_))))))
      rintro _ w17 ⟨rfl, hB18⟩
      replace hb := hb.trans (hB18.mono hs)
      replace hs := Nat.le_trans hs (hB18.size)
      replace o_x2 := obj_below o_x2 hB18
      refine L_mv (L_run (.int .i32 ((hexF ((Lib.cut s ([46, 46] : List UInt8)).2.1)).1)) (by kernel_rfl) (by kernel_rfl) (L_run (.int .i64 ((hexF ((Lib.cut s ([46, 46] : List UInt8)).2.1)).2)) (by kernel_rfl) (by kernel_rfl) (L_as (L_as (L_nil (thenQ_normal (W_seq (W_seq (W_region (L_mv (L_cmp .i64 ((hexF ((Lib.cut s ([46, 46] : List UInt8)).2.1)).2) 0 ((hexF ((Lib.cut s ([46, 46] : List UInt8)).2.1)).2 ≠ 0) rfl (cmp_ne ((hexF ((Lib.cut s ([46, 46] : List UInt8)).2.1)).2) 0) (by kernel_rfl) (by kernel_rfl) ?_ ?_)))))))))))
      · intro h20
        replace h20 : (hexF ((Lib.cut s ([46, 46] : List UInt8)).2.1)).2 ≠ 0 := by omega
        refine L_nil (thenQ_normal (W_true (by kernel_rfl) (W_seq (W_region (L_run (Value.agg #[(.int .i32 0), (.int .i32 0)]) (by kernel_rfl) (by kernel_rfl) (L_mv (L_storeA b1 0 [(.int .i32 0), (.int .i32 0)] [(.int .i32 0), (.int .i32 0)] [(.int .i32 0), (.int .i32 0)] 29 (by kernel_rfl) (by kernel_rfl) rfl (by kernel_rfl) o_x2 (by kernel_rfl) rfl ?_)))))))
        intro w21 hW22
        replace hb := hb.trans (hW22.below g_x2)
        replace hs := Nat.le_trans hs (Nat.le_of_eq hW22.size.symm)
        replace o_x2 := hW22.here
        refine L_as (L_nil (thenQ_normal (W_ret (thenQ_ret ?_))))
        refine end_ret [.cell 2 29, .tmp 3] [(Value.agg #[(.int .i32 0), (.int .i32 0)]), (.int .i64 ((hexF ((Lib.cut s ([46, 46] : List UInt8)).2.1)).2))] rfl rfl ⟨⟨⟨b1, 0, none⟩, by kernel_rfl, load_agg [(.int .i32 0), (.int .i32 0)] (by kernel_rfl) (by kernel_rfl) (cells_obj o_x2)⟩, by kernel_rfl, trivial⟩ ?_
        have hE : ((Value.agg #[(.int .i32 0), (.int .i32 0)]) = (Value.agg #[(.int .i32 ((spanF s).1)), (.int .i32 ((spanF s).2.1))])) ∧ (((hexF ((Lib.cut s ([46, 46] : List UInt8)).2.1)).2 : Int) = (spanF s).2.2) := ⟨(by first | (rw [span_cut, if_pos (by omega)]; done) | (rw [span_cut, if_neg (by omega), if_pos (nt (by assumption))]; done) | (rw [span_cut, if_neg (by omega), if_neg (nf (by assumption)), if_pos (by omega)]; done) | (rw [span_cut, if_neg (by omega), if_neg (nf (by assumption)), if_neg (by omega), if_pos (by omega)]; done) | (rw [span_cut, if_neg (by omega), if_neg (nf (by assumption)), if_neg (by omega), if_neg (by omega)]; done)), (by first | (rw [span_cut, if_pos (by omega)]; done) | (rw [span_cut, if_neg (by omega), if_pos (nt (by assumption))]; done) | (rw [span_cut, if_neg (by omega), if_neg (nf (by assumption)), if_pos (by omega)]; done) | (rw [span_cut, if_neg (by omega), if_neg (nf (by assumption)), if_neg (by omega), if_pos (by omega)]; done) | (rw [span_cut, if_neg (by omega), if_neg (nf (by assumption)), if_neg (by omega), if_neg (by omega)]; done))⟩
        exact ⟨tup2 (hE.1) (congrArg (Value.int .i64) hE.2), hb⟩
      · intro h23
        replace h23 : (hexF ((Lib.cut s ([46, 46] : List UInt8)).2.1)).2 = 0 := by omega
        refine L_nil (thenQ_normal (W_false (by kernel_rfl) (W_skip (thenQ_normal (W_seq (W_seq (W_region (L_mv (L_mv (L_cmp .i32 ((hexF ((Lib.cut s ([46, 46] : List UInt8)).1)).1) ((hexF ((Lib.cut s ([46, 46] : List UInt8)).2.1)).1) ((hexF ((Lib.cut s ([46, 46] : List UInt8)).2.1)).1 < (hexF ((Lib.cut s ([46, 46] : List UInt8)).1)).1) rfl (cmp_gt ((hexF ((Lib.cut s ([46, 46] : List UInt8)).1)).1) ((hexF ((Lib.cut s ([46, 46] : List UInt8)).2.1)).1)) (by kernel_rfl) (by kernel_rfl) ?_ ?_))))))))))
        · intro h24
          replace h24 : (hexF ((Lib.cut s ([46, 46] : List UInt8)).2.1)).1 < (hexF ((Lib.cut s ([46, 46] : List UInt8)).1)).1 := by omega
          refine L_nil (thenQ_normal (W_true (by kernel_rfl) (W_seq (W_region (L_run (Value.agg #[(.int .i32 0), (.int .i32 0)]) (by kernel_rfl) (by kernel_rfl) (L_storeA b1 0 [(.int .i32 0), (.int .i32 0)] [(.int .i32 0), (.int .i32 0)] [(.int .i32 0), (.int .i32 0)] 29 (by kernel_rfl) (by kernel_rfl) rfl (by kernel_rfl) o_x2 (by kernel_rfl) rfl ?_))))))
          intro w25 hW26
          replace hb := hb.trans (hW26.below g_x2)
          replace hs := Nat.le_trans hs (Nat.le_of_eq hW26.size.symm)
          replace o_x2 := hW26.here
          refine L_as (L_nil (thenQ_normal (W_ret (thenQ_ret ?_))))
          refine end_ret [.cell 2 29, .tmp 3] [(Value.agg #[(.int .i32 0), (.int .i32 0)]), (.int .i64 41)] rfl rfl ⟨⟨⟨b1, 0, none⟩, by kernel_rfl, load_agg [(.int .i32 0), (.int .i32 0)] (by kernel_rfl) (by kernel_rfl) (cells_obj o_x2)⟩, by kernel_rfl, trivial⟩ ?_
          have hE : ((Value.agg #[(.int .i32 0), (.int .i32 0)]) = (Value.agg #[(.int .i32 ((spanF s).1)), (.int .i32 ((spanF s).2.1))])) ∧ ((41 : Int) = (spanF s).2.2) := ⟨(by first | (rw [span_cut, if_pos (by omega)]; done) | (rw [span_cut, if_neg (by omega), if_pos (nt (by assumption))]; done) | (rw [span_cut, if_neg (by omega), if_neg (nf (by assumption)), if_pos (by omega)]; done) | (rw [span_cut, if_neg (by omega), if_neg (nf (by assumption)), if_neg (by omega), if_pos (by omega)]; done) | (rw [span_cut, if_neg (by omega), if_neg (nf (by assumption)), if_neg (by omega), if_neg (by omega)]; done)), (by first | (rw [span_cut, if_pos (by omega)]; done) | (rw [span_cut, if_neg (by omega), if_pos (nt (by assumption))]; done) | (rw [span_cut, if_neg (by omega), if_neg (nf (by assumption)), if_pos (by omega)]; done) | (rw [span_cut, if_neg (by omega), if_neg (nf (by assumption)), if_neg (by omega), if_pos (by omega)]; done) | (rw [span_cut, if_neg (by omega), if_neg (nf (by assumption)), if_neg (by omega), if_neg (by omega)]; done))⟩
          exact ⟨tup2 (hE.1) (congrArg (Value.int .i64) hE.2), hb⟩
        · intro h27
          replace h27 : (hexF ((Lib.cut s ([46, 46] : List UInt8)).1)).1 ≤ (hexF ((Lib.cut s ([46, 46] : List UInt8)).2.1)).1 := by omega
          refine L_nil (thenQ_normal (W_false (by kernel_rfl) (W_skip (thenQ_normal (W_seq (W_region (L_mv (L_mv (L_run (Value.agg #[(.int .i32 ((hexF ((Lib.cut s ([46, 46] : List UInt8)).1)).1)), (.int .i32 ((hexF ((Lib.cut s ([46, 46] : List UInt8)).2.1)).1))]) (by kernel_rfl) (by kernel_rfl) (L_storeA b1 0 [(.int .i32 ((hexF ((Lib.cut s ([46, 46] : List UInt8)).1)).1)), (.int .i32 ((hexF ((Lib.cut s ([46, 46] : List UInt8)).2.1)).1))] [(.int .i32 0), (.int .i32 0)] [(.int .i32 ((hexF ((Lib.cut s ([46, 46] : List UInt8)).1)).1)), (.int .i32 ((hexF ((Lib.cut s ([46, 46] : List UInt8)).2.1)).1))] 29 (by kernel_rfl) (by kernel_rfl) rfl (by kernel_rfl) o_x2 (by kernel_rfl) rfl ?_))))))))))
          intro w28 hW29
          replace hb := hb.trans (hW29.below g_x2)
          replace hs := Nat.le_trans hs (Nat.le_of_eq hW29.size.symm)
          replace o_x2 := hW29.here
          refine L_as (L_nil (thenQ_normal (W_ret ?_)))
          refine end_ret [.cell 2 29, .tmp 3] [(Value.agg #[(.int .i32 ((hexF ((Lib.cut s ([46, 46] : List UInt8)).1)).1)), (.int .i32 ((hexF ((Lib.cut s ([46, 46] : List UInt8)).2.1)).1))]), (.int .i64 0)] rfl rfl ⟨⟨⟨b1, 0, none⟩, by kernel_rfl, load_agg [(.int .i32 ((hexF ((Lib.cut s ([46, 46] : List UInt8)).1)).1)), (.int .i32 ((hexF ((Lib.cut s ([46, 46] : List UInt8)).2.1)).1))] (by kernel_rfl) (by kernel_rfl) (cells_obj o_x2)⟩, by kernel_rfl, trivial⟩ ?_
          have hE : ((Value.agg #[(.int .i32 ((hexF ((Lib.cut s ([46, 46] : List UInt8)).1)).1)), (.int .i32 ((hexF ((Lib.cut s ([46, 46] : List UInt8)).2.1)).1))]) = (Value.agg #[(.int .i32 ((spanF s).1)), (.int .i32 ((spanF s).2.1))])) ∧ ((0 : Int) = (spanF s).2.2) := ⟨(by first | (rw [span_cut, if_pos (by omega)]; done) | (rw [span_cut, if_neg (by omega), if_pos (nt (by assumption))]; done) | (rw [span_cut, if_neg (by omega), if_neg (nf (by assumption)), if_pos (by omega)]; done) | (rw [span_cut, if_neg (by omega), if_neg (nf (by assumption)), if_neg (by omega), if_pos (by omega)]; done) | (rw [span_cut, if_neg (by omega), if_neg (nf (by assumption)), if_neg (by omega), if_neg (by omega)]; done)), (by first | (rw [span_cut, if_pos (by omega)]; done) | (rw [span_cut, if_neg (by omega), if_pos (nt (by assumption))]; done) | (rw [span_cut, if_neg (by omega), if_neg (nf (by assumption)), if_pos (by omega)]; done) | (rw [span_cut, if_neg (by omega), if_neg (nf (by assumption)), if_neg (by omega), if_pos (by omega)]; done) | (rw [span_cut, if_neg (by omega), if_neg (nf (by assumption)), if_neg (by omega), if_neg (by omega)]; done))⟩
          exact ⟨tup2 (hE.1) (congrArg (Value.int .i64) hE.2), hb⟩

end Go.Proofs.Ytmjkegpbbhafjaa
