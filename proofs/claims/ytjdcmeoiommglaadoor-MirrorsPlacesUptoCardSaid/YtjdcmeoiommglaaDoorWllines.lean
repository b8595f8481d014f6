/- Walks, written by my program walk.py out of the specification llines.py: each theorem says what one function returns and that it leaves memory as it was. -/
import Derived.Test.YtjdcmeoiommglaaDoorPLpcs
import Derived.Test.YtjdcmeoiommglaaDoorFKv
import Derived.Test.YtjdcmeoiommglaaDoorProg
import Derived.Tactics2
namespace Go.Proofs.YtjdcmeoiommglaaDoor
open Go Go.RowKit Go.FK
set_option linter.unusedVariables false
set_option linter.unusedSimpArgs false

theorem el23 : Elem Tryd.prog 23 9 1 16 := ⟨Tryd.underlying23, by kernel_rfl, rfl⟩
theorem el132 : Elem Tryd.prog 132 135 3 24 := ⟨Tryd.underlying132, by kernel_rfl, rfl⟩
theorem el87 : Elem Tryd.prog 87 25 5 72 := ⟨Tryd.underlying87, by kernel_rfl, rfl⟩
theorem c_strings_IndexByte (s : List UInt8) (c : Int) (w : World) :
    Calls Tryd.prog 47 #[(S s), (.int .u8 c)] w (Ret fun v w' => v = (.int .i64 (ibF s c)) ∧ Below w.heap.size w w') :=
  indexByte_contract Tryd.strings_IndexByte s c w

theorem c_strings_HasPrefix (s : List UInt8) (p : List UInt8) (w : World) :
    Calls Tryd.prog 29 #[(S s), (S p)] w (Ret fun v w' => v = (.bool (hpB s p)) ∧ Below w.heap.size w w') :=
  hasPrefix_contract Tryd.strings_HasPrefix s p w

theorem c_stringslite_Index (s : List UInt8) (sep : List UInt8) (w : World) (h1 : sep.length = 1) :
    Calls Tryd.prog 80 #[(S s), (S sep)] w (Ret fun v w' => v = (.int .i64 (Lib.index s sep)) ∧ Below w.heap.size w w') :=
  index1_contract Tryd.stringslite_Index_one s sep w h1

set_option maxHeartbeats 4000000 in
set_option maxRecDepth 100000 in
theorem c_stringslite_Cut (s : List UInt8) (sep : List UInt8) (w : World) (h1 : sep.length = 1) (hs : s.length ≤ 1073741824) :
    Calls Tryd.prog 78 #[(S s), (S sep)] w (Ret fun v w' => v = (.tuple #[(S ((Lib.cut s sep).1)), (S ((Lib.cut s sep).2.1)), (.bool ((Lib.cut s sep).2.2))]) ∧ Below w.heap.size w w') := by
  refine enter (args := [(S s), (S sep)]) Tryd.func78 rfl (by kernel_rfl : _ = 23) (by kernel_rfl) ?_
  have hb := Below.refl w.heap.size w
  have hs : w.heap.size ≤ w.heap.size := Nat.le_refl _
  refine W_seq (W_region (L_as (L_as (L_as (L_nil (thenQ_normal (W_seq (W_seq (W_region (L_mv (L_mv (L_call 80 [(S s), (S sep)] (by kernel_rfl) (by kernel_rfl) (c_stringslite_Index s sep _ (by omega)) ?_))))))))))))
  rintro _ w1 ⟨rfl, hB2⟩
  replace hb := hb.trans (hB2.mono hs)
  replace hs := Nat.le_trans hs (hB2.size)
  have := ixl_range s sep
  refine L_as (L_nil (thenQ_normal (W_seq (W_region (L_mv (L_cmp .i64 (Lib.index s sep) 0 (0 ≤ (Lib.index s sep)) rfl (cmp_ge (Lib.index s sep) 0) (by kernel_rfl) (by kernel_rfl) ?_ ?_))))))
  · intro h4
    replace h4 : 0 ≤ (Lib.index s sep) := by omega
    refine L_nil (thenQ_normal (W_true (by kernel_rfl) (W_seq (W_quiet (by kernel_rfl) (by kernel_rfl) (Lq_mv (Lq_mv (Lq_ssto s (((Lib.index s sep)).toNat) Tryd.underlying9 (by kernel_rfl) (toNat_val (Lib.index s sep) .i64 (by kernel_rfl) (by omega)) (by omega) (Lq_mv (Lq_mv (Lq_mv (Lq_slen 9 sep rfl Tryd.underlying9 (by kernel_rfl) (Lq_arith (Lib.index s sep) (((sep).length : Nat) : Int) ((Lib.index s sep) + (((sep).length : Nat) : Int)) rfl (by kernel_rfl) (by kernel_rfl) (wrap_i64 _ (by simp only [arithZ]; omega) (by simp only [arithZ]; omega)) (Lq_ssfrom s ((((Lib.index s sep) + (((sep).length : Nat) : Int))).toNat) Tryd.underlying9 (by kernel_rfl) (toNat_val ((Lib.index s sep) + (((sep).length : Nat) : Int)) .i64 (by kernel_rfl) (by omega)) (by omega) (Lq_as (Lq_as (Lq_as (Lq_nil ?_)))))))))))))))))
    intro w5 hB6
    replace hb := hb.trans (hB6.mono hs)
    replace hs := Nat.le_trans hs (hB6.size)
    refine thenQ_normal (W_ret (thenQ_ret ?_))
    refine end_ret [.tmp 4, .tmp 5, .tmp 6] [(S (List.take (((Lib.index s sep)).toNat) s)), (S (List.drop ((((Lib.index s sep) + (((sep).length : Nat) : Int))).toNat) s)), (.bool true)] rfl rfl ⟨by kernel_rfl, by kernel_rfl, by kernel_rfl, trivial⟩ ?_
    have hE : ((List.take (((Lib.index s sep)).toNat) s) = (Lib.cut s sep).1) ∧ ((List.drop ((((Lib.index s sep) + (((sep).length : Nat) : Int))).toNat) s) = (Lib.cut s sep).2.1) ∧ (true = (Lib.cut s sep).2.2) := ⟨(by first | (rw [cut_some (by omega)]; done) | (rw [cut_none (by omega)]; done)), (by first | (rw [cut_some (by omega)]; done) | (rw [cut_none (by omega)]; done)), (by first | (rw [cut_some (by omega)]; done) | (rw [cut_none (by omega)]; done))⟩
    exact ⟨tup3 (congrArg S hE.1) (congrArg S hE.2.1) (congrArg Value.bool hE.2.2), hb⟩
  · intro h7
    replace h7 : (Lib.index s sep) < 0 := by omega
    refine L_nil (thenQ_normal (W_false (by kernel_rfl) (W_skip (thenQ_normal (W_seq (W_region (L_mv (L_as (L_as (L_as (L_nil (thenQ_normal (W_ret ?_)))))))))))))
    refine end_ret [.tmp 4, .tmp 5, .tmp 6] [(S s), (S ([] : List UInt8)), (.bool false)] rfl rfl ⟨by kernel_rfl, by kernel_rfl, by kernel_rfl, trivial⟩ ?_
    have hE : (s = (Lib.cut s sep).1) ∧ (([] : List UInt8) = (Lib.cut s sep).2.1) ∧ (false = (Lib.cut s sep).2.2) := ⟨(by first | (rw [cut_some (by omega)]; done) | (rw [cut_none (by omega)]; done)), (by first | (rw [cut_some (by omega)]; done) | (rw [cut_none (by omega)]; done)), (by first | (rw [cut_some (by omega)]; done) | (rw [cut_none (by omega)]; done))⟩
    exact ⟨tup3 (congrArg S hE.1) (congrArg S hE.2.1) (congrArg Value.bool hE.2.2), hb⟩

set_option maxHeartbeats 4000000 in
set_option maxRecDepth 100000 in
theorem c_strings_Cut (s : List UInt8) (sep : List UInt8) (w : World) (h1 : sep.length = 1) (hs : s.length ≤ 1073741824) :
    Calls Tryd.prog 71 #[(S s), (S sep)] w (Ret fun v w' => v = (.tuple #[(S ((Lib.cut s sep).1)), (S ((Lib.cut s sep).2.1)), (.bool ((Lib.cut s sep).2.2))]) ∧ Below w.heap.size w w') := by
  refine enter (args := [(S s), (S sep)]) Tryd.func71 rfl (by kernel_rfl : _ = 13) (by kernel_rfl) ?_
  have hb := Below.refl w.heap.size w
  have hs : w.heap.size ≤ w.heap.size := Nat.le_refl _
  refine W_seq (W_region (L_as (L_as (L_as (L_nil (thenQ_normal (W_seq (W_region (L_mv (L_mv (L_call 78 [(S s), (S sep)] (by kernel_rfl) (by kernel_rfl) (c_stringslite_Cut s sep _ (by omega) (by omega)) ?_)))))))))))
  rintro _ w1 ⟨rfl, hB2⟩
  replace hb := hb.trans (hB2.mono hs)
  replace hs := Nat.le_trans hs (hB2.size)
  have := cutl_len s sep
  refine L_run (S ((Lib.cut s sep).1)) (by kernel_rfl) (by kernel_rfl) (L_run (S ((Lib.cut s sep).2.1)) (by kernel_rfl) (by kernel_rfl) (L_run (.bool ((Lib.cut s sep).2.2)) (by kernel_rfl) (by kernel_rfl) (L_as (L_as (L_as (L_nil (thenQ_normal (W_ret ?_))))))))
  refine end_ret [.tmp 4, .tmp 5, .tmp 6] [(S ((Lib.cut s sep).1)), (S ((Lib.cut s sep).2.1)), (.bool ((Lib.cut s sep).2.2))] rfl rfl ⟨by kernel_rfl, by kernel_rfl, by kernel_rfl, trivial⟩ ?_
  have hE : ((Lib.cut s sep).1 = (Lib.cut s sep).1) ∧ ((Lib.cut s sep).2.1 = (Lib.cut s sep).2.1) ∧ ((Lib.cut s sep).2.2 = (Lib.cut s sep).2.2) := ⟨(by first | rfl | (simp_all; done) | omega), (by first | rfl | (simp_all; done) | omega), (by first | rfl | (simp_all; done) | omega)⟩
  exact ⟨tup3 (congrArg S hE.1) (congrArg S hE.2.1) (congrArg Value.bool hE.2.2), hb⟩

theorem c_strings_Trim (s : List UInt8) (c : List UInt8) (w : World) (ha : c.all (fun b => decide (b.toNat < 128)) = true) (hs : s.length ≤ 1073741824) (hc : c.length ≤ 1073741824) :
    Calls Tryd.prog 79 #[(S s), (S c)] w (Ret fun v w' => v = (S (Lib.trimS s c)) ∧ Below w.heap.size w w') :=
  trim_contract (fun s c w hs hcs ha => Go.Proofs.Any.strings_Trim_laid Tryd.lays160 (by kernel_rfl) s c w hs hcs ha) s c w ha hs hc

set_option maxHeartbeats 4000000 in
set_option maxRecDepth 100000 in
theorem c_lines_trim (s : List UInt8) (w : World) (hs : s.length ≤ 1073741824) :
    Calls Tryd.prog 72 #[(S s)] w (Ret fun v w' => v = (S (trmF s)) ∧ Below w.heap.size w w') := by
  refine enter (args := [(S s)]) Tryd.func72 rfl (by kernel_rfl : _ = 5) (by kernel_rfl) ?_
  have hb := Below.refl w.heap.size w
  have hs : w.heap.size ≤ w.heap.size := Nat.le_refl _
  refine W_seq (W_region (L_as (L_nil (thenQ_normal (W_seq (W_region (L_mv (L_call 79 [(S s), (S ([32, 9] : List UInt8))] (by kernel_rfl) (by kernel_rfl) (c_strings_Trim s ([32, 9] : List UInt8) _ (by decide) (by first | omega | decide) (by first | omega | decide)) ?_))))))))
  rintro _ w1 ⟨rfl, hB2⟩
  replace hb := hb.trans (hB2.mono hs)
  replace hs := Nat.le_trans hs (hB2.size)
  refine L_as (L_nil (thenQ_normal (W_ret ?_)))
  refine end_ret [.tmp 2] [(S (Lib.trimS s ([32, 9] : List UInt8)))] rfl rfl ⟨by kernel_rfl, trivial⟩ ?_
  have e0 : (Lib.trimS s ([32, 9] : List UInt8)) = (trmF s) := by rfl
  exact ⟨congrArg S e0, hb⟩

set_option maxHeartbeats 4000000 in
set_option maxRecDepth 100000 in
theorem c_lines_wrong (s : List UInt8) (p : Nat) (r : Int) (w : World) (hp : p ≤ s.length) :
    Calls Tryd.prog 77 #[(S s), (.int .i64 ((p : Nat) : Int)), (.int .i32 r)] w (Ret fun v w' => v = (.bool (wrongB s p r)) ∧ Below w.heap.size w w') := by
  refine enter (args := [(S s), (.int .i64 ((p : Nat) : Int)), (.int .i32 r)]) Tryd.func77 rfl (by kernel_rfl : _ = 18) (by kernel_rfl) ?_
  have hb := Below.refl w.heap.size w
  have hs : w.heap.size ≤ w.heap.size := Nat.le_refl _
  refine W_seq (W_region (L_as (L_nil (thenQ_normal (W_seq (W_region (L_mv (L_cmp .i32 r 65533 (r = 65533) rfl (cmp_eq r 65533) (by kernel_rfl) (by kernel_rfl) ?_ ?_))))))))
  · intro h1
    replace h1 : r = 65533 := by omega
    refine L_mv (L_want (by kernel_rfl) (L_mv (L_want (by kernel_rfl) (L_mv (L_want (by kernel_rfl) (L_ssfrom s p Tryd.underlying9 (by kernel_rfl) ⟨.i64, by kernel_rfl⟩ (by omega) (L_want (by kernel_rfl) (L_mv (L_want (by kernel_rfl) (L_runeStr r (by kernel_rfl) Tryd.underlying21 Tryd.underlying9 (L_want (by kernel_rfl) (L_call 29 [(S (List.drop p s)), (S (encL [r]))] (by kernel_rfl) (by kernel_rfl) (c_strings_HasPrefix (List.drop p s) (encL [r]) _ ) ?_))))))))))))
    rintro _ w2 ⟨rfl, hB3⟩
    replace hb := hb.trans (hB3.mono hs)
    replace hs := Nat.le_trans hs (hB3.size)
    refine put_split (hpB (List.drop p s) (encL [r])) ?_ ?_
    · intro h5
      refine L_want (by kernel_rfl) (L_not true (by kernel_rfl) (L_pickT (by kernel_rfl) (L_as (L_nil (thenQ_normal (W_ret ?_))))))
      refine end_ret [.tmp 6] [(.bool false)] rfl rfl ⟨by kernel_rfl, trivial⟩ ?_
      have e0 : false = wrongB s p r := by first | (simp [wrongB, *]; done) | (unfold wrongB; simp_all; done)
      exact ⟨congrArg Value.bool e0, hb⟩
    · intro h6
      refine L_want (by kernel_rfl) (L_not false (by kernel_rfl) (L_pickT (by kernel_rfl) (L_as (L_nil (thenQ_normal (W_ret ?_))))))
      refine end_ret [.tmp 6] [(.bool true)] rfl rfl ⟨by kernel_rfl, trivial⟩ ?_
      have e0 : true = wrongB s p r := by first | (simp [wrongB, *]; done) | (unfold wrongB; simp_all; done)
      exact ⟨congrArg Value.bool e0, hb⟩
  · intro h7
    replace h7 : r ≠ 65533 := by omega
    refine L_mv (L_skip (by kernel_rfl) (L_skip (by kernel_rfl) (L_skip (by kernel_rfl) (L_skip (by kernel_rfl) (L_skip (by kernel_rfl) (L_skip (by kernel_rfl) (L_skip (by kernel_rfl) (L_pickF (by kernel_rfl) (L_as (L_nil (thenQ_normal (W_ret ?_))))))))))))
    refine end_ret [.tmp 6] [(.bool false)] rfl rfl ⟨by kernel_rfl, trivial⟩ ?_
    have e0 : false = wrongB s p r := by first | (simp [wrongB, *]; done) | (unfold wrongB; simp_all; done)
    exact ⟨congrArg Value.bool e0, hb⟩

set_option maxHeartbeats 4000000 in
set_option maxRecDepth 100000 in
theorem c_lines_Check (s : List UInt8) (w : World) (hs : s.length ≤ 1073741824) :
    Calls Tryd.prog 69 #[(S s)] w (Ret fun v w' => v = (.tuple #[(.int .i64 (((chkF s).1 : Nat) : Int)), (.int .i64 ((chkF s).2))]) ∧ Below w.heap.size w w') := by
  refine enter (args := [(S s)]) Tryd.func69 rfl (by kernel_rfl : _ = 35) (by kernel_rfl) ?_
  have hb := Below.refl w.heap.size w
  have hs : w.heap.size ≤ w.heap.size := Nat.le_refl _
  refine W_seq (W_region (L_as (L_as (L_nil (thenQ_normal (W_seq (W_region (L_as (L_nil (thenQ_normal (W_seq (W_seq (W_region (L_mv (L_range s Tryd.underlying9 (by kernel_rfl) ?_)))))))))))))))
  intro b1 w2 hN3
  have g_it8 : w.heap.size ≤ b1 := by rw [hN3.num]; exact hs
  replace hb := hb.trans (hN3.below.mono hs)
  replace hs := Nat.le_trans hs (hN3.below.size)
  have o_it8 := hN3.here
  refine L_nil (thenQ_normal (W_block ?_))
  refine W_loop (fun m s0 w0 => ∃ (pos : Nat) (n : Nat), (m = s.length - pos) ∧ (s0.ds = []) ∧ (s0.f 0 = (S s)) ∧ (s0.f 8 = (.pointer (some ⟨b1, 0, none⟩))) ∧ (s0.f 4 = (.int .i64 ((n : Nat) : Int))) ∧ (w0.heap[b1]? = some (.stringIter ⟨(s).toArray⟩ pos)) ∧ (Below w.heap.size w w0) ∧ (w.heap.size ≤ w0.heap.size) ∧ (pos ≤ s.length) ∧ (n ≤ pos) ∧ (n ≤ 4096) ∧ (chkL (charsFrom s pos) n = chkF s)) _ ⟨0, 0, rfl, by kernel_rfl, by kernel_rfl, by kernel_rfl, by kernel_rfl, o_it8, hb, hs, by omega, by omega, by omega, rfl⟩ ?_
  rintro m4 s5 w6 ⟨pos, n, hm, hds, f_0, f_8, f_4, o_it8, hb, hs, i1, i2, i4, i3⟩
  refine W_set 0 _ f_0 (W_set 8 _ f_8 (W_set 4 _ f_4 ?_))
  clear f_0 f_8 f_4
  refine W_seq (W_region ?_)
  rcases Nat.lt_or_ge pos (s).length with lt_it8 | ge_it8
  · refine L_next s b1 pos (by kernel_rfl) o_it8 lt_it8 ?_
    intro c_it8 w7 ch_it8 hW8
    replace hb := hb.trans (hW8.below g_it8)
    replace hs := Nat.le_trans hs (Nat.le_of_eq hW8.size.symm)
    replace o_it8 := hW8.here
    have := dec_pos s pos; have := dec_fits s pos lt_it8; have := dec_le s pos
    have c_it8_0 : 0 ≤ c_it8 := by omega
    have c_it8_1 : c_it8 ≤ 2147483647 := by omega
    refine L_run (.bool true) (by kernel_rfl) (by kernel_rfl) (L_nil (thenQ_normal (W_seq (W_true (by kernel_rfl) (W_skip (thenQ_normal (W_block (W_seq (W_region (L_run (.int .i64 ((pos : Nat) : Int)) (by kernel_rfl) (by kernel_rfl) (L_run (.int .i32 c_it8) (by kernel_rfl) (by kernel_rfl) (L_as (L_as (L_nil (thenQ_normal (W_seq (W_block (W_seq (W_region (L_mv (L_cmp .i64 ((n : Nat) : Int) ((4096 : Nat) : Int) (n = 4096) rfl (cmpN_eq n 4096) (by kernel_rfl) (by kernel_rfl) ?_ ?_)))))))))))))))))))))
    · intro h9
      replace h9 : n = 4096 := by omega
      refine L_as (L_nil (thenQ_normal (W_true (by kernel_rfl) (W_seq (W_region (L_mv (L_as (L_as (L_nil (thenQ_normal (W_ret (blkQ_ret (thenQ_ret (blkQ_ret (thenQ_ret (blkQ_ret (thenQ_ret ?_)))))))))))))))))
      refine end_ret [.tmp 2, .tmp 3] [(.int .i64 ((n : Nat) : Int)), (.int .i64 32)] rfl hds ⟨by kernel_rfl, by kernel_rfl, trivial⟩ ?_
      have hE : (n = (chkF s).1) ∧ ((32 : Int) = (chkF s).2) := ⟨(by first | (rw [← i3, chk_end (by omega)]; done) | (rw [← i3, (by assumption : n = 4096), chk_wide lt_it8]; done) | (rw [← i3, chk_wrong (n := n) lt_it8 (by omega) (by rw [← ch_it8]; assumption)]; done) | (rw [← i3, chk_ctl (n := n) lt_it8 (by omega) (by rw [← ch_it8]; assumption) (by omega)]; done)), (by first | (rw [← i3, chk_end (by omega)]; done) | (rw [← i3, (by assumption : n = 4096), chk_wide lt_it8]; done) | (rw [← i3, chk_wrong (n := n) lt_it8 (by omega) (by rw [← ch_it8]; assumption)]; done) | (rw [← i3, chk_ctl (n := n) lt_it8 (by omega) (by rw [← ch_it8]; assumption) (by omega)]; done))⟩
      exact ⟨tup2 (congrArg (fun x : Nat => Value.int .i64 (x : Int)) hE.1) (congrArg (Value.int .i64) hE.2), hb⟩
    · intro h10
      replace h10 : n ≠ 4096 := by omega
      refine L_as (L_nil (thenQ_normal (W_false (by kernel_rfl) (W_seq (W_region (L_mv (L_mv (L_mv (L_call 77 [(S s), (.int .i64 ((pos : Nat) : Int)), (.int .i32 c_it8)] (by kernel_rfl) (by kernel_rfl) (c_lines_wrong s pos c_it8 _ (by omega)) ?_)))))))))
      rintro _ w11 ⟨rfl, hB12⟩
      replace hb := hb.trans (hB12.mono hs)
      replace hs := Nat.le_trans hs (hB12.size)
      replace o_it8 := obj_below o_it8 hB12
      refine put_split (wrongB s pos c_it8) ?_ ?_
      · intro h14
        refine L_as (L_nil (thenQ_normal (W_true (by kernel_rfl) (W_seq (W_region (L_mv (L_as (L_as (L_nil (thenQ_normal (W_ret (blkQ_ret (thenQ_ret (blkQ_ret (thenQ_ret (blkQ_ret (thenQ_ret ?_)))))))))))))))))
        refine end_ret [.tmp 2, .tmp 3] [(.int .i64 ((n : Nat) : Int)), (.int .i64 30)] rfl hds ⟨by kernel_rfl, by kernel_rfl, trivial⟩ ?_
        have hE : (n = (chkF s).1) ∧ ((30 : Int) = (chkF s).2) := ⟨(by first | (rw [← i3, chk_end (by omega)]; done) | (rw [← i3, (by assumption : n = 4096), chk_wide lt_it8]; done) | (rw [← i3, chk_wrong (n := n) lt_it8 (by omega) (by rw [← ch_it8]; assumption)]; done) | (rw [← i3, chk_ctl (n := n) lt_it8 (by omega) (by rw [← ch_it8]; assumption) (by omega)]; done)), (by first | (rw [← i3, chk_end (by omega)]; done) | (rw [← i3, (by assumption : n = 4096), chk_wide lt_it8]; done) | (rw [← i3, chk_wrong (n := n) lt_it8 (by omega) (by rw [← ch_it8]; assumption)]; done) | (rw [← i3, chk_ctl (n := n) lt_it8 (by omega) (by rw [← ch_it8]; assumption) (by omega)]; done))⟩
        exact ⟨tup2 (congrArg (fun x : Nat => Value.int .i64 (x : Int)) hE.1) (congrArg (Value.int .i64) hE.2), hb⟩
      · intro h15
        refine L_as (L_nil (thenQ_normal (W_false (by kernel_rfl) (W_seq (W_seq (W_region (L_mv (L_cmp .i32 c_it8 32 (c_it8 < 32) rfl (cmp_lt c_it8 32) (by kernel_rfl) (by kernel_rfl) ?_ ?_))))))))
        · intro h16
          replace h16 : c_it8 < 32 := by omega
          refine L_mv (L_want (by kernel_rfl) (L_mv (L_want (by kernel_rfl) (L_cmp .i32 c_it8 9 (c_it8 ≠ 9) rfl (cmp_ne c_it8 9) (by kernel_rfl) (by kernel_rfl) ?_ ?_))))
          · intro h17
            replace h17 : c_it8 ≠ 9 := by omega
            refine L_pickT (by kernel_rfl) (L_as (L_nil (thenQ_normal (W_true (by kernel_rfl) (W_skip (thenQ_normal (W_true (by kernel_rfl) (W_seq (W_region (L_mv (L_as (L_as (L_nil (thenQ_normal (W_ret (blkQ_ret (thenQ_ret (blkQ_ret (thenQ_ret (blkQ_ret (thenQ_ret ?_)))))))))))))))))))))
            refine end_ret [.tmp 2, .tmp 3] [(.int .i64 ((n : Nat) : Int)), (.int .i64 31)] rfl hds ⟨by kernel_rfl, by kernel_rfl, trivial⟩ ?_
            have hE : (n = (chkF s).1) ∧ ((31 : Int) = (chkF s).2) := ⟨(by first | (rw [← i3, chk_end (by omega)]; done) | (rw [← i3, (by assumption : n = 4096), chk_wide lt_it8]; done) | (rw [← i3, chk_wrong (n := n) lt_it8 (by omega) (by rw [← ch_it8]; assumption)]; done) | (rw [← i3, chk_ctl (n := n) lt_it8 (by omega) (by rw [← ch_it8]; assumption) (by omega)]; done)), (by first | (rw [← i3, chk_end (by omega)]; done) | (rw [← i3, (by assumption : n = 4096), chk_wide lt_it8]; done) | (rw [← i3, chk_wrong (n := n) lt_it8 (by omega) (by rw [← ch_it8]; assumption)]; done) | (rw [← i3, chk_ctl (n := n) lt_it8 (by omega) (by rw [← ch_it8]; assumption) (by omega)]; done))⟩
            exact ⟨tup2 (congrArg (fun x : Nat => Value.int .i64 (x : Int)) hE.1) (congrArg (Value.int .i64) hE.2), hb⟩
          · intro h18
            replace h18 : c_it8 = 9 := by omega
            refine L_pickT (by kernel_rfl) (L_as (L_nil (thenQ_normal (W_false (by kernel_rfl) (W_region (L_mv (L_cmp .i32 c_it8 127 (c_it8 = 127) rfl (cmp_eq c_it8 127) (by kernel_rfl) (by kernel_rfl) ?_ ?_)))))))
            · intro h19
              replace h19 : c_it8 = 127 := by omega
              refine L_as (L_nil (thenQ_normal (W_true (by kernel_rfl) (W_seq (W_region (L_mv (L_as (L_as (L_nil (thenQ_normal (W_ret (blkQ_ret (thenQ_ret (blkQ_ret (thenQ_ret (blkQ_ret (thenQ_ret ?_)))))))))))))))))
              refine end_ret [.tmp 2, .tmp 3] [(.int .i64 ((n : Nat) : Int)), (.int .i64 31)] rfl hds ⟨by kernel_rfl, by kernel_rfl, trivial⟩ ?_
              have hE : (n = (chkF s).1) ∧ ((31 : Int) = (chkF s).2) := ⟨(by first | (rw [← i3, chk_end (by omega)]; done) | (rw [← i3, (by assumption : n = 4096), chk_wide lt_it8]; done) | (rw [← i3, chk_wrong (n := n) lt_it8 (by omega) (by rw [← ch_it8]; assumption)]; done) | (rw [← i3, chk_ctl (n := n) lt_it8 (by omega) (by rw [← ch_it8]; assumption) (by omega)]; done)), (by first | (rw [← i3, chk_end (by omega)]; done) | (rw [← i3, (by assumption : n = 4096), chk_wide lt_it8]; done) | (rw [← i3, chk_wrong (n := n) lt_it8 (by omega) (by rw [← ch_it8]; assumption)]; done) | (rw [← i3, chk_ctl (n := n) lt_it8 (by omega) (by rw [← ch_it8]; assumption) (by omega)]; done))⟩
              exact ⟨tup2 (congrArg (fun x : Nat => Value.int .i64 (x : Int)) hE.1) (congrArg (Value.int .i64) hE.2), hb⟩
            · intro h20
              replace h20 : c_it8 ≠ 127 := by omega
              refine L_as (L_nil (thenQ_normal (W_false (by kernel_rfl) (W_skip (blkQ_normal (thenQ_normal (W_region (L_mv (L_addN n 1 (by omega) (by kernel_rfl) (by kernel_rfl) (L_as (L_nil (blkQ_normal ?_))))))))))))
              refine thenQ_normal ⟨_, ?_, (pos + (dec s pos).2), (n + 1), rfl, hds, by kernel_rfl, by kernel_rfl, by kernel_rfl, o_it8, hb, hs, ?_, ?_, ?_, ?_⟩
              · omega
              · omega
              · omega
              · omega
              · rw [← chk_on (n := n) lt_it8 (by omega) (by rw [← ch_it8]; assumption) (by omega)]; exact i3
        · intro h21
          replace h21 : 32 ≤ c_it8 := by omega
          refine L_mv (L_skip (by kernel_rfl) (L_skip (by kernel_rfl) (L_pickF (by kernel_rfl) (L_as (L_nil (thenQ_normal (W_false (by kernel_rfl) (W_region (L_mv (L_cmp .i32 c_it8 127 (c_it8 = 127) rfl (cmp_eq c_it8 127) (by kernel_rfl) (by kernel_rfl) ?_ ?_))))))))))
          · intro h22
            replace h22 : c_it8 = 127 := by omega
            refine L_as (L_nil (thenQ_normal (W_true (by kernel_rfl) (W_seq (W_region (L_mv (L_as (L_as (L_nil (thenQ_normal (W_ret (blkQ_ret (thenQ_ret (blkQ_ret (thenQ_ret (blkQ_ret (thenQ_ret ?_)))))))))))))))))
            refine end_ret [.tmp 2, .tmp 3] [(.int .i64 ((n : Nat) : Int)), (.int .i64 31)] rfl hds ⟨by kernel_rfl, by kernel_rfl, trivial⟩ ?_
            have hE : (n = (chkF s).1) ∧ ((31 : Int) = (chkF s).2) := ⟨(by first | (rw [← i3, chk_end (by omega)]; done) | (rw [← i3, (by assumption : n = 4096), chk_wide lt_it8]; done) | (rw [← i3, chk_wrong (n := n) lt_it8 (by omega) (by rw [← ch_it8]; assumption)]; done) | (rw [← i3, chk_ctl (n := n) lt_it8 (by omega) (by rw [← ch_it8]; assumption) (by omega)]; done)), (by first | (rw [← i3, chk_end (by omega)]; done) | (rw [← i3, (by assumption : n = 4096), chk_wide lt_it8]; done) | (rw [← i3, chk_wrong (n := n) lt_it8 (by omega) (by rw [← ch_it8]; assumption)]; done) | (rw [← i3, chk_ctl (n := n) lt_it8 (by omega) (by rw [← ch_it8]; assumption) (by omega)]; done))⟩
            exact ⟨tup2 (congrArg (fun x : Nat => Value.int .i64 (x : Int)) hE.1) (congrArg (Value.int .i64) hE.2), hb⟩
          · intro h23
            replace h23 : c_it8 ≠ 127 := by omega
            refine L_as (L_nil (thenQ_normal (W_false (by kernel_rfl) (W_skip (blkQ_normal (thenQ_normal (W_region (L_mv (L_addN n 1 (by omega) (by kernel_rfl) (by kernel_rfl) (L_as (L_nil (blkQ_normal ?_))))))))))))
            refine thenQ_normal ⟨_, ?_, (pos + (dec s pos).2), (n + 1), rfl, hds, by kernel_rfl, by kernel_rfl, by kernel_rfl, o_it8, hb, hs, ?_, ?_, ?_, ?_⟩
            · omega
            · omega
            · omega
            · omega
            · rw [← chk_on (n := n) lt_it8 (by omega) (by rw [← ch_it8]; assumption) (by omega)]; exact i3
  · refine L_nextEnd s b1 pos (by kernel_rfl) o_it8 ge_it8 (L_run (.bool false) (by kernel_rfl) (by kernel_rfl) (L_nil (thenQ_normal (W_seq (W_false (by kernel_rfl) (W_exit (thenQ_exit (thenQ_exit (blkQ_exit (thenQ_normal (W_seq (W_region (L_as (L_as (L_nil (thenQ_normal (W_ret ?_)))))))))))))))))
    refine end_ret [.tmp 2, .tmp 3] [(.int .i64 0), (.int .i64 0)] rfl hds ⟨by kernel_rfl, by kernel_rfl, trivial⟩ ?_
    have hE : (0 = (chkF s).1) ∧ ((0 : Int) = (chkF s).2) := ⟨(by first | (rw [← i3, chk_end (by omega)]; done) | (rw [← i3, (by assumption : n = 4096), chk_wide lt_it8]; done) | (rw [← i3, chk_wrong (n := n) lt_it8 (by omega) (by rw [← ch_it8]; assumption)]; done) | (rw [← i3, chk_ctl (n := n) lt_it8 (by omega) (by rw [← ch_it8]; assumption) (by omega)]; done)), (by first | (rw [← i3, chk_end (by omega)]; done) | (rw [← i3, (by assumption : n = 4096), chk_wide lt_it8]; done) | (rw [← i3, chk_wrong (n := n) lt_it8 (by omega) (by rw [← ch_it8]; assumption)]; done) | (rw [← i3, chk_ctl (n := n) lt_it8 (by omega) (by rw [← ch_it8]; assumption) (by omega)]; done))⟩
    exact ⟨tup2 (congrArg (fun x : Nat => Value.int .i64 (x : Int)) hE.1) (congrArg (Value.int .i64) hE.2), hb⟩

set_option maxHeartbeats 4000000 in
set_option maxRecDepth 100000 in
theorem c_lines_fields (s : List UInt8) (w : World) (hs : s.length ≤ 1073741824) :
    Calls Tryd.prog 74 #[(S s)] w (Ret fun v w' => ∃ (q0 : Value), v = q0 ∧ Row w' w.heap.size 9 1 encStr q0 (fieldsF s) ∧ Below w.heap.size w w') := by
  refine enter (args := [(S s)]) Tryd.func74 rfl (by kernel_rfl : _ = 37) (by kernel_rfl) ?_
  have hb := Below.refl w.heap.size w
  have hs : w.heap.size ≤ w.heap.size := Nat.le_refl _
  refine W_seq (W_region (L_as (L_nil (thenQ_normal ?_))))
  refine W_scope (fun l m s0 w0 => (l = 1 ∧ ∃ (acc : List (List UInt8)) (fr : Nat) (at_ : Nat) (v_3 : Value), (m = 3 * (s.length - at_) + 2) ∧ (s0.ds = []) ∧ (s0.f 0 = (S s)) ∧ (s0.f 3 = v_3) ∧ (s0.f 4 = (.int .i64 ((fr : Nat) : Int))) ∧ (s0.f 5 = (.int .i64 ((at_ : Nat) : Int))) ∧ (Row w0 w.heap.size 9 1 encStr v_3 acc) ∧ (Below w.heap.size w w0) ∧ (w.heap.size ≤ w0.heap.size) ∧ (fr ≤ at_) ∧ (at_ ≤ s.length) ∧ (noB 59 s fr at_) ∧ (acc ++ (splF 59 (s.drop fr)).map trmF = (splF 59 s).map trmF) ∧ (trmF s ≠ []) ∧ (acc.length ≤ at_)) ∨ (l = 2 ∧ ∃ (acc : List (List UInt8)) (fr : Nat) (at_ : Nat) (v_3 : Value), (m = 3 * (s.length - at_) + 1) ∧ (s0.ds = []) ∧ (s0.f 0 = (S s)) ∧ (s0.f 3 = v_3) ∧ (s0.f 4 = (.int .i64 ((fr : Nat) : Int))) ∧ (s0.f 5 = (.int .i64 ((at_ : Nat) : Int))) ∧ (Row w0 w.heap.size 9 1 encStr v_3 acc) ∧ (Below w.heap.size w w0) ∧ (w.heap.size ≤ w0.heap.size) ∧ (fr ≤ at_) ∧ (at_ ≤ s.length) ∧ (noB 59 s fr at_) ∧ (acc ++ (splF 59 (s.drop fr)).map trmF = (splF 59 s).map trmF) ∧ (trmF s ≠ []) ∧ (acc.length ≤ at_) ∧ (∃ c : UInt8, s[at_]? = some c ∧ c.toNat = 59) ∧ (at_ < s.length)) ∨ (l = 0 ∧ ∃ (acc : List (List UInt8)) (fr : Nat) (at_ : Nat) (v_3 : Value), (m = 0) ∧ (s0.ds = []) ∧ (s0.f 0 = (S s)) ∧ (s0.f 3 = v_3) ∧ (s0.f 4 = (.int .i64 ((fr : Nat) : Int))) ∧ (s0.f 5 = (.int .i64 ((at_ : Nat) : Int))) ∧ (Row w0 w.heap.size 9 1 encStr v_3 acc) ∧ (Below w.heap.size w w0) ∧ (w.heap.size ≤ w0.heap.size) ∧ (fr ≤ at_) ∧ (at_ ≤ s.length) ∧ (noB 59 s fr at_) ∧ (acc ++ (splF 59 (s.drop fr)).map trmF = (splF 59 s).map trmF) ∧ (trmF s ≠ []) ∧ (acc.length ≤ at_) ∧ (at_ = s.length))) ?_ ?_
  · refine W_seq (W_region (L_as (L_nil (thenQ_normal (W_seq (W_region (L_as (L_as (L_nil (thenQ_normal (W_seq (W_seq (W_region (L_mv (L_call 72 [(S s)] (by kernel_rfl) (by kernel_rfl) (c_lines_trim s _ (by first | omega | (simp only [List.length_drop, List.length_take]; omega) | decide)) ?_)))))))))))))))
    rintro _ w1 ⟨rfl, hB2⟩
    replace hb := hb.trans (hB2.mono hs)
    replace hs := Nat.le_trans hs (hB2.size)
    have := trm_len s
    refine L_seq (trmF s) ([] : List UInt8) rfl (by kernel_rfl) (by kernel_rfl) ?_ ?_
    · intro h4
      refine L_nil (thenQ_normal (W_true (by kernel_rfl) (W_seq (W_region (L_as (L_nil (thenQ_normal (W_ret (thenQ_ret (jmpQ_ret ?_))))))))))
      refine end_ret [.tmp 2] [(.slice none 0 0)] rfl rfl ⟨by kernel_rfl, trivial⟩ ?_
      have e51 : ([] : List (List UInt8)) = fieldsF s := by first | exact (fields_nil (by assumption)).symm | exact fld_end i2 (by omega) i3 i4
      exact ⟨(.slice none 0 0), rfl, (Row.nil _ _ _ _ _).cast e51, hb⟩
    · intro h5
      refine L_nil (thenQ_normal (W_false (by kernel_rfl) (W_skip (thenQ_normal (W_seq (W_label (thenQ_normal (W_seq (W_seq (W_region (L_mv (L_mv (L_slen 9 s rfl Tryd.underlying9 (by kernel_rfl) (L_cmp .i64 ((0 : Nat) : Int) (((s).length : Nat) : Int) (0 = (s).length) rfl (cmpN_eq 0 ((s).length)) (by kernel_rfl) (by kernel_rfl) ?_ ?_))))))))))))))
      · intro h6
        replace h6 : 0 = (s).length := by omega
        refine L_nil (thenQ_normal (W_true (by kernel_rfl) (W_goto (thenQ_goto (jmpQ_goto ?_)))))
        refine ⟨_, Or.inr (Or.inr (⟨rfl, [], 0, 0, (.slice none 0 0), rfl, rfl, by kernel_rfl, by kernel_rfl, by kernel_rfl, by kernel_rfl, Row.nil _ _ _ _ _, hb, hs, ?_, ?_, ?_, ?_, ?_, ?_, ?_⟩))⟩
        · omega
        · omega
        · first | exact noB_zero _ _ _ | assumption | exact noB_succ i2 (by assumption) (by assumption) | exact noB_succ (noB_zero _ _ _) (by assumption) (by assumption)
        · first | assumption | rfl | exact fld_hit i2 i0 hc0 hc1 i3
        · first | assumption | exact i4
        · first | omega | (simp only [List.length_append, List.length_cons, List.length_nil]; omega)
        · first | exact ⟨_, by assumption, by assumption⟩ | omega
      · intro h7
        replace h7 : 0 ≠ (s).length := by omega
        refine L_nil (thenQ_normal (W_false (by kernel_rfl) (W_skip (thenQ_normal (W_seq (W_seq (W_region (L_mv (L_mv ?_)))))))))
        have hz := get_some s 0 (by first | omega | (simp only [List.length_drop, List.length_take]; omega) | decide); obtain ⟨c8, hc9⟩ := hz
        have := c8.toNat_lt
        refine L_sindex (k := .i64) s 0 c8 Tryd.underlying9 hc9 (by kernel_rfl) (by kernel_rfl) (L_cmp .u8 ((c8.toNat : Nat) : Int) ((59 : Nat) : Int) (c8.toNat = 59) rfl (cmpN_eq c8.toNat 59) (by kernel_rfl) (by kernel_rfl) ?_ ?_)
        · intro h10
          replace h10 : c8.toNat = 59 := by omega
          refine L_nil (thenQ_normal (W_true (by kernel_rfl) (W_goto (thenQ_goto (jmpQ_goto ?_)))))
          refine ⟨_, Or.inr (Or.inl (⟨rfl, [], 0, 0, (.slice none 0 0), rfl, rfl, by kernel_rfl, by kernel_rfl, by kernel_rfl, by kernel_rfl, Row.nil _ _ _ _ _, hb, hs, ?_, ?_, ?_, ?_, ?_, ?_, ?_, ?_⟩))⟩
          · omega
          · omega
          · first | exact noB_zero _ _ _ | assumption | exact noB_succ i2 (by assumption) (by assumption) | exact noB_succ (noB_zero _ _ _) (by assumption) (by assumption)
          · first | assumption | rfl | exact fld_hit i2 i0 hc0 hc1 i3
          · first | assumption | exact i4
          · first | omega | (simp only [List.length_append, List.length_cons, List.length_nil]; omega)
          · first | exact ⟨_, by assumption, by assumption⟩ | omega
          · omega
        · intro h11
          replace h11 : c8.toNat ≠ 59 := by omega
          refine L_nil (thenQ_normal (W_false (by kernel_rfl) (W_skip (thenQ_normal (W_seq (W_region (L_mv (L_addN 0 1 (by omega) (by kernel_rfl) (by kernel_rfl) (L_as (L_nil (thenQ_normal (W_seq (W_goto (thenQ_goto (jmpQ_goto ?_)))))))))))))))
          refine ⟨_, Or.inl (⟨rfl, [], 0, 1, (.slice none 0 0), rfl, rfl, by kernel_rfl, by kernel_rfl, by kernel_rfl, by kernel_rfl, Row.nil _ _ _ _ _, hb, hs, ?_, ?_, ?_, ?_, ?_, ?_⟩)⟩
          · omega
          · omega
          · first | exact noB_zero _ _ _ | assumption | exact noB_succ i2 (by assumption) (by assumption) | exact noB_succ (noB_zero _ _ _) (by assumption) (by assumption)
          · first | assumption | rfl | exact fld_hit i2 i0 hc0 hc1 i3
          · first | assumption | exact i4
          · first | omega | (simp only [List.length_append, List.length_cons, List.length_nil]; omega)
  · rintro l m14 s12 w13 (⟨rfl, acc, fr, at_, v_3, hm, hds, f_0, f_3, f_4, f_5, r_3, hb, hs, i0, i1, i2, i3, i4, i5⟩ | ⟨rfl, acc, fr, at_, v_3, hm, hds, f_0, f_3, f_4, f_5, r_3, hb, hs, i0, i1, i2, i3, i4, i5, i6, i7⟩ | ⟨rfl, acc, fr, at_, v_3, hm, hds, f_0, f_3, f_4, f_5, r_3, hb, hs, i0, i1, i2, i3, i4, i5, i6⟩)
    · skip
      refine ⟨_, rfl, ?_⟩
      refine W_set 0 _ f_0 (W_set 3 _ f_3 (W_set 4 _ f_4 (W_set 5 _ f_5 ?_)))
      clear f_0 f_3 f_4 f_5
      refine W_seq (W_skip (thenQ_normal (W_seq (W_seq (W_region (L_mv (L_mv (L_slen 9 s rfl Tryd.underlying9 (by kernel_rfl) (L_cmp .i64 ((at_ : Nat) : Int) (((s).length : Nat) : Int) (at_ = (s).length) rfl (cmpN_eq at_ ((s).length)) (by kernel_rfl) (by kernel_rfl) ?_ ?_)))))))))
      · intro h15
        replace h15 : at_ = (s).length := by omega
        refine L_nil (thenQ_normal (W_true (by kernel_rfl) (W_goto (thenQ_goto (jmpQ_goto ?_)))))
        refine ⟨_, ?_, Or.inr (Or.inr (⟨rfl, acc, fr, at_, v_3, rfl, hds, by kernel_rfl, by kernel_rfl, by kernel_rfl, by kernel_rfl, r_3, hb, hs, ?_, ?_, ?_, ?_, ?_, ?_, ?_⟩))⟩
        · omega
        · omega
        · omega
        · first | exact noB_zero _ _ _ | assumption | exact noB_succ i2 (by assumption) (by assumption) | exact noB_succ (noB_zero _ _ _) (by assumption) (by assumption)
        · first | assumption | rfl | exact fld_hit i2 i0 hc0 hc1 i3
        · first | assumption | exact i4
        · first | omega | (simp only [List.length_append, List.length_cons, List.length_nil]; omega)
        · first | exact ⟨_, by assumption, by assumption⟩ | omega
      · intro h16
        replace h16 : at_ ≠ (s).length := by omega
        refine L_nil (thenQ_normal (W_false (by kernel_rfl) (W_skip (thenQ_normal (W_seq (W_seq (W_region (L_mv (L_mv ?_)))))))))
        have hz := get_some s at_ (by first | omega | (simp only [List.length_drop, List.length_take]; omega) | decide); obtain ⟨c17, hc18⟩ := hz
        have := c17.toNat_lt
        refine L_sindex (k := .i64) s at_ c17 Tryd.underlying9 hc18 (by kernel_rfl) (by kernel_rfl) (L_cmp .u8 ((c17.toNat : Nat) : Int) ((59 : Nat) : Int) (c17.toNat = 59) rfl (cmpN_eq c17.toNat 59) (by kernel_rfl) (by kernel_rfl) ?_ ?_)
        · intro h19
          replace h19 : c17.toNat = 59 := by omega
          refine L_nil (thenQ_normal (W_true (by kernel_rfl) (W_goto (thenQ_goto (jmpQ_goto ?_)))))
          refine ⟨_, ?_, Or.inr (Or.inl (⟨rfl, acc, fr, at_, v_3, rfl, hds, by kernel_rfl, by kernel_rfl, by kernel_rfl, by kernel_rfl, r_3, hb, hs, ?_, ?_, ?_, ?_, ?_, ?_, ?_, ?_⟩))⟩
          · omega
          · omega
          · omega
          · first | exact noB_zero _ _ _ | assumption | exact noB_succ i2 (by assumption) (by assumption) | exact noB_succ (noB_zero _ _ _) (by assumption) (by assumption)
          · first | assumption | rfl | exact fld_hit i2 i0 hc0 hc1 i3
          · first | assumption | exact i4
          · first | omega | (simp only [List.length_append, List.length_cons, List.length_nil]; omega)
          · first | exact ⟨_, by assumption, by assumption⟩ | omega
          · omega
        · intro h20
          replace h20 : c17.toNat ≠ 59 := by omega
          refine L_nil (thenQ_normal (W_false (by kernel_rfl) (W_skip (thenQ_normal (W_seq (W_region (L_mv (L_addN at_ 1 (by omega) (by kernel_rfl) (by kernel_rfl) (L_as (L_nil (thenQ_normal (W_seq (W_goto (thenQ_goto (jmpQ_goto ?_)))))))))))))))
          refine ⟨_, ?_, Or.inl (⟨rfl, acc, fr, (at_ + 1), v_3, rfl, hds, by kernel_rfl, by kernel_rfl, by kernel_rfl, by kernel_rfl, r_3, hb, hs, ?_, ?_, ?_, ?_, ?_, ?_⟩)⟩
          · omega
          · omega
          · omega
          · first | exact noB_zero _ _ _ | assumption | exact noB_succ i2 (by assumption) (by assumption) | exact noB_succ (noB_zero _ _ _) (by assumption) (by assumption)
          · first | assumption | rfl | exact fld_hit i2 i0 hc0 hc1 i3
          · first | assumption | exact i4
          · first | omega | (simp only [List.length_append, List.length_cons, List.length_nil]; omega)
    · skip
      refine ⟨_, rfl, ?_⟩
      refine W_set 0 _ f_0 (W_set 3 _ f_3 (W_set 4 _ f_4 (W_set 5 _ f_5 ?_)))
      clear f_0 f_3 f_4 f_5
      obtain ⟨c0, hc0, hc1⟩ := i6
      refine W_seq (W_skip (thenQ_normal (W_seq (W_region (L_mv (L_mv (L_mv (L_mv (L_sslice s fr at_ Tryd.underlying9 (by kernel_rfl) ⟨.i64, by kernel_rfl⟩ ⟨.i64, by kernel_rfl⟩ (by first | omega | (simp only [List.length_drop, List.length_take]; omega) | decide) (by first | omega | (simp only [List.length_drop, List.length_take]; omega) | decide) (L_call 72 [(S (List.drop fr (List.take at_ s)))] (by kernel_rfl) (by kernel_rfl) (c_lines_trim (List.drop fr (List.take at_ s)) _ (by first | omega | (simp only [List.length_drop, List.length_take]; omega) | decide)) ?_))))))))))
      rintro _ w21 ⟨rfl, hB22⟩
      replace hb := hb.trans (hB22.mono hs)
      replace hs := Nat.le_trans hs (hB22.size)
      replace r_3 := r_3.below hB22
      have := trm_len (List.drop fr (List.take at_ s))
      refine L_app el23 w.heap.size v_3 acc (trmF (List.drop fr (List.take at_ s))) hs r_3 (by omega) (by kernel_rfl) rfl rfl (by kernel_rfl) rfl (by kernel_rfl) (by kernel_rfl) ?_
      intro v24 w25 hr26 hg27 how28
      replace hb := hb.grown hg27 hs (fun k hk => (World.ownsRow.lt r_3 k hk).1)
      replace hs := Nat.le_trans hs (hg27.size)
      replace r_3 := hr26
      refine L_as (L_nil (thenQ_normal (W_seq (W_region (L_mv (L_addN at_ 1 (by omega) (by kernel_rfl) (by kernel_rfl) (L_as (L_nil (thenQ_normal (W_seq (W_region (L_mv (L_as (L_nil (thenQ_normal (W_seq (W_goto (thenQ_goto (jmpQ_goto ?_)))))))))))))))))))
      refine ⟨_, ?_, Or.inl (⟨rfl, (acc ++ [(trmF (List.drop fr (List.take at_ s)))]), (at_ + 1), (at_ + 1), v24, rfl, hds, by kernel_rfl, by kernel_rfl, by kernel_rfl, by kernel_rfl, r_3, hb, hs, ?_, ?_, ?_, ?_, ?_, ?_⟩)⟩
      · omega
      · omega
      · omega
      · first | exact noB_zero _ _ _ | assumption | exact noB_succ i2 (by assumption) (by assumption) | exact noB_succ (noB_zero _ _ _) (by assumption) (by assumption)
      · first | assumption | rfl | exact fld_hit i2 i0 hc0 hc1 i3
      · first | assumption | exact i4
      · first | omega | (simp only [List.length_append, List.length_cons, List.length_nil]; omega)
    · skip
      refine ⟨_, rfl, ?_⟩
      refine W_set 0 _ f_0 (W_set 3 _ f_3 (W_set 4 _ f_4 (W_set 5 _ f_5 ?_)))
      clear f_0 f_3 f_4 f_5
      refine W_seq (W_skip (thenQ_normal (W_seq (W_region (L_mv (L_mv (L_mv (L_ssfrom s fr Tryd.underlying9 (by kernel_rfl) ⟨.i64, by kernel_rfl⟩ (by first | omega | (simp only [List.length_drop, List.length_take]; omega) | decide) (L_call 72 [(S (List.drop fr s))] (by kernel_rfl) (by kernel_rfl) (c_lines_trim (List.drop fr s) _ (by first | omega | (simp only [List.length_drop, List.length_take]; omega) | decide)) ?_)))))))))
      rintro _ w29 ⟨rfl, hB30⟩
      replace hb := hb.trans (hB30.mono hs)
      replace hs := Nat.le_trans hs (hB30.size)
      replace r_3 := r_3.below hB30
      have := trm_len (List.drop fr s)
      refine L_app el23 w.heap.size v_3 acc (trmF (List.drop fr s)) hs r_3 (by omega) (by kernel_rfl) rfl rfl (by kernel_rfl) rfl (by kernel_rfl) (by kernel_rfl) ?_
      intro v32 w33 hr34 hg35 how36
      replace hb := hb.grown hg35 hs (fun k hk => (World.ownsRow.lt r_3 k hk).1)
      replace hs := Nat.le_trans hs (hg35.size)
      replace r_3 := hr34
      refine L_as (L_nil (thenQ_normal (W_ret (jmpQ_ret ?_))))
      refine end_ret [.tmp 2] [v32] rfl hds ⟨by kernel_rfl, trivial⟩ ?_
      have e51 : (acc ++ [(trmF (List.drop fr s))]) = fieldsF s := by first | exact (fields_nil (by assumption)).symm | exact fld_end i2 (by omega) i3 i4
      exact ⟨v32, rfl, r_3.cast e51, hb⟩

set_option maxHeartbeats 4000000 in
set_option maxRecDepth 100000 in
theorem c_lines_Cut (s : List UInt8) (w : World) (hs : s.length ≤ 1073741824) :
    Calls Tryd.prog 70 #[(S s)] w (Ret fun v w' => ∃ (q0 : Value), v = (.tuple #[q0, (S ((cutF s).2))]) ∧ Row w' w.heap.size 9 1 encStr q0 ((cutF s).1) ∧ Below w.heap.size w w') := by
  refine enter (args := [(S s)]) Tryd.func70 rfl (by kernel_rfl : _ = 17) (by kernel_rfl) ?_
  have hb := Below.refl w.heap.size w
  have hs : w.heap.size ≤ w.heap.size := Nat.le_refl _
  refine W_seq (W_region (L_as (L_as (L_nil (thenQ_normal (W_seq (W_region (L_mv (L_call 71 [(S s), (S ([35] : List UInt8))] (by kernel_rfl) (by kernel_rfl) (c_strings_Cut s ([35] : List UInt8) _ (by first | omega | decide | rfl) (by first | omega | decide | rfl)) ?_)))))))))
  rintro _ w1 ⟨rfl, hB2⟩
  replace hb := hb.trans (hB2.mono hs)
  replace hs := Nat.le_trans hs (hB2.size)
  have := cutl_len s ([35] : List UInt8)
  refine L_mv (L_run (S ((Lib.cut s ([35] : List UInt8)).1)) (by kernel_rfl) (by kernel_rfl) (L_run (S ((Lib.cut s ([35] : List UInt8)).2.1)) (by kernel_rfl) (by kernel_rfl) (L_run (.bool ((Lib.cut s ([35] : List UInt8)).2.2)) (by kernel_rfl) (by kernel_rfl) (L_as (L_as (L_as (L_nil (thenQ_normal (W_seq (W_region (L_mv (L_call 74 [(S ((Lib.cut s ([35] : List UInt8)).1))] (by kernel_rfl) (by kernel_rfl) (c_lines_fields ((Lib.cut s ([35] : List UInt8)).1) _ (by first | omega | decide | rfl)) ?_))))))))))))
  rintro q4 w5 ⟨_, rfl, r_q4, hB6⟩
  replace r_q4 := r_q4.base hs
  replace hb := hb.trans (hB6.mono hs)
  replace hs := Nat.le_trans hs (hB6.size)
  refine L_mv (L_call 72 [(S ((Lib.cut s ([35] : List UInt8)).2.1))] (by kernel_rfl) (by kernel_rfl) (c_lines_trim ((Lib.cut s ([35] : List UInt8)).2.1) _ (by first | omega | decide | rfl)) ?_)
  rintro _ w8 ⟨rfl, hB9⟩
  replace hb := hb.trans (hB9.mono hs)
  replace hs := Nat.le_trans hs (hB9.size)
  replace r_q4 := r_q4.below hB9
  have := trm_len ((Lib.cut s ([35] : List UInt8)).2.1)
  refine L_as (L_as (L_nil (thenQ_normal (W_ret ?_))))
  refine end_ret [.tmp 2, .tmp 3] [q4, (S (trmF ((Lib.cut s ([35] : List UInt8)).2.1)))] rfl rfl ⟨by kernel_rfl, by kernel_rfl, trivial⟩ ?_
  have hE : ((trmF ((Lib.cut s ([35] : List UInt8)).2.1)) = (cutF s).2) ∧ (fieldsF ((Lib.cut s ([35] : List UInt8)).1) = (cutF s).1) := ⟨(by rfl), (by rfl)⟩
  exact ⟨q4, tup2 (rfl) (congrArg S hE.1), r_q4.cast hE.2, hb⟩

set_option maxHeartbeats 4000000 in
set_option maxRecDepth 100000 in
theorem c_lines_named (s : List UInt8) (w : World) (hs : s.length ≤ 1073741824) :
    Calls Tryd.prog 73 #[(S s)] w (Ret fun v w' => v = (.bool (nameF s)) ∧ Below w.heap.size w w') := by
  refine enter (args := [(S s)]) Tryd.func73 rfl (by kernel_rfl : _ = 35) (by kernel_rfl) ?_
  have hb := Below.refl w.heap.size w
  have hs : w.heap.size ≤ w.heap.size := Nat.le_refl _
  refine W_seq (W_region (L_as (L_nil (thenQ_normal (W_seq (W_seq (W_region (L_mv (L_range s Tryd.underlying9 (by kernel_rfl) ?_)))))))))
  intro b1 w2 hN3
  have g_it6 : w.heap.size ≤ b1 := by rw [hN3.num]; exact hs
  replace hb := hb.trans (hN3.below.mono hs)
  replace hs := Nat.le_trans hs (hN3.below.size)
  have o_it6 := hN3.here
  refine L_nil (thenQ_normal (W_block ?_))
  refine W_loop (fun m s0 w0 => ∃ (pos : Nat), (m = s.length - pos) ∧ (s0.ds = []) ∧ (s0.f 0 = (S s)) ∧ (s0.f 6 = (.pointer (some ⟨b1, 0, none⟩))) ∧ (w0.heap[b1]? = some (.stringIter ⟨(s).toArray⟩ pos)) ∧ (Below w.heap.size w w0) ∧ (w.heap.size ≤ w0.heap.size) ∧ (pos ≤ s.length) ∧ ((s.drop pos).all nmB = s.all nmB)) _ ⟨0, rfl, by kernel_rfl, by kernel_rfl, by kernel_rfl, o_it6, hb, hs, by omega, rfl⟩ ?_
  rintro m4 s5 w6 ⟨pos, hm, hds, f_0, f_6, o_it6, hb, hs, i1, i3⟩
  refine W_set 0 _ f_0 (W_set 6 _ f_6 ?_)
  clear f_0 f_6
  refine W_seq (W_region ?_)
  rcases Nat.lt_or_ge pos (s).length with lt_it6 | ge_it6
  · refine L_next s b1 pos (by kernel_rfl) o_it6 lt_it6 ?_
    intro c_it6 w7 ch_it6 hW8
    replace hb := hb.trans (hW8.below g_it6)
    replace hs := Nat.le_trans hs (Nat.le_of_eq hW8.size.symm)
    replace o_it6 := hW8.here
    have := dec_pos s pos; have := dec_fits s pos lt_it6; have := dec_le s pos
    have c_it6_0 : 0 ≤ c_it6 := by omega
    have c_it6_1 : c_it6 ≤ 2147483647 := by omega
    refine L_run (.bool true) (by kernel_rfl) (by kernel_rfl) (L_nil (thenQ_normal (W_seq (W_true (by kernel_rfl) (W_skip (thenQ_normal (W_block (W_seq (W_region (L_run (.int .i32 c_it6) (by kernel_rfl) (by kernel_rfl) (L_as (L_nil (thenQ_normal (W_block (W_seq (W_seq (W_region (L_mv (L_cmp .i32 c_it6 65 (65 ≤ c_it6) rfl (cmp_ge c_it6 65) (by kernel_rfl) (by kernel_rfl) ?_ ?_)))))))))))))))))))
    · intro h9
      replace h9 : 65 ≤ c_it6 := by omega
      refine L_mv (L_want (by kernel_rfl) (L_mv (L_want (by kernel_rfl) (L_cmp .i32 c_it6 90 (c_it6 ≤ 90) rfl (cmp_le c_it6 90) (by kernel_rfl) (by kernel_rfl) ?_ ?_))))
      · intro h10
        replace h10 : c_it6 ≤ 90 := by omega
        refine L_pickT (by kernel_rfl) (L_as (L_nil (thenQ_normal (W_true (by kernel_rfl) (W_skip (thenQ_normal (W_true (by kernel_rfl) (W_skip (blkQ_normal (blkQ_normal ?_))))))))))
        refine thenQ_normal ⟨_, ?_, (pos + (dec s pos).2), rfl, hds, by kernel_rfl, by kernel_rfl, o_it6, hb, hs, ?_, ?_⟩
        · omega
        · omega
        · exact nm_on lt_it6 (by omega) i3
      · intro h11
        replace h11 : 90 < c_it6 := by omega
        refine L_pickT (by kernel_rfl) (L_as (L_nil (thenQ_normal (W_false (by kernel_rfl) (W_seq (W_region (L_mv (L_cmp .i32 c_it6 97 (97 ≤ c_it6) rfl (cmp_ge c_it6 97) (by kernel_rfl) (by kernel_rfl) ?_ ?_))))))))
        · intro h12
          replace h12 : 97 ≤ c_it6 := by omega
          refine L_mv (L_want (by kernel_rfl) (L_mv (L_want (by kernel_rfl) (L_cmp .i32 c_it6 122 (c_it6 ≤ 122) rfl (cmp_le c_it6 122) (by kernel_rfl) (by kernel_rfl) ?_ ?_))))
          · intro h13
            replace h13 : c_it6 ≤ 122 := by omega
            refine L_pickT (by kernel_rfl) (L_as (L_nil (thenQ_normal (W_true (by kernel_rfl) (W_skip (thenQ_normal (W_true (by kernel_rfl) (W_skip (blkQ_normal (blkQ_normal ?_))))))))))
            refine thenQ_normal ⟨_, ?_, (pos + (dec s pos).2), rfl, hds, by kernel_rfl, by kernel_rfl, o_it6, hb, hs, ?_, ?_⟩
            · omega
            · omega
            · exact nm_on lt_it6 (by omega) i3
          · intro h14
            replace h14 : 122 < c_it6 := by omega
            refine L_pickT (by kernel_rfl) (L_as (L_nil (thenQ_normal (W_false (by kernel_rfl) (W_seq (W_region (L_mv (L_cmp .i32 c_it6 48 (48 ≤ c_it6) rfl (cmp_ge c_it6 48) (by kernel_rfl) (by kernel_rfl) ?_ ?_))))))))
            · intro h15
              replace h15 : 48 ≤ c_it6 := by omega
              refine L_mv (L_want (by kernel_rfl) (L_mv (L_want (by kernel_rfl) (L_cmp .i32 c_it6 57 (c_it6 ≤ 57) rfl (cmp_le c_it6 57) (by kernel_rfl) (by kernel_rfl) ?_ ?_))))
              · intro h16
                replace h16 : c_it6 ≤ 57 := by omega
                refine L_pickT (by kernel_rfl) (L_as (L_nil (thenQ_normal (W_true (by kernel_rfl) (W_skip (thenQ_normal (W_true (by kernel_rfl) (W_skip (blkQ_normal (blkQ_normal ?_))))))))))
                refine thenQ_normal ⟨_, ?_, (pos + (dec s pos).2), rfl, hds, by kernel_rfl, by kernel_rfl, o_it6, hb, hs, ?_, ?_⟩
                · omega
                · omega
                · exact nm_on lt_it6 (by omega) i3
              · intro h17
                replace h17 : 57 < c_it6 := by omega
                refine L_pickT (by kernel_rfl) (L_as (L_nil (thenQ_normal (W_false (by kernel_rfl) (W_seq (W_region (L_mv (L_cmp .i32 c_it6 95 (c_it6 = 95) rfl (cmp_eq c_it6 95) (by kernel_rfl) (by kernel_rfl) ?_ ?_))))))))
                · intro h18
                  replace h18 : c_it6 = 95 := by omega
                  refine L_as (L_nil (thenQ_normal (W_true (by kernel_rfl) (W_skip (thenQ_normal (W_true (by kernel_rfl) (W_skip (blkQ_normal (blkQ_normal ?_)))))))))
                  refine thenQ_normal ⟨_, ?_, (pos + (dec s pos).2), rfl, hds, by kernel_rfl, by kernel_rfl, o_it6, hb, hs, ?_, ?_⟩
                  · omega
                  · omega
                  · exact nm_on lt_it6 (by omega) i3
                · intro h19
                  replace h19 : c_it6 ≠ 95 := by omega
                  refine L_as (L_nil (thenQ_normal (W_false (by kernel_rfl) (W_region (L_mv (L_cmp .i32 c_it6 45 (c_it6 = 45) rfl (cmp_eq c_it6 45) (by kernel_rfl) (by kernel_rfl) ?_ ?_))))))
                  · intro h20
                    replace h20 : c_it6 = 45 := by omega
                    refine L_as (L_nil (thenQ_normal (W_true (by kernel_rfl) (W_skip (blkQ_normal (blkQ_normal ?_))))))
                    refine thenQ_normal ⟨_, ?_, (pos + (dec s pos).2), rfl, hds, by kernel_rfl, by kernel_rfl, o_it6, hb, hs, ?_, ?_⟩
                    · omega
                    · omega
                    · exact nm_on lt_it6 (by omega) i3
                  · intro h21
                    replace h21 : c_it6 ≠ 45 := by omega
                    refine L_as (L_nil (thenQ_normal (W_false (by kernel_rfl) (W_seq (W_region (L_as (L_nil (thenQ_normal (W_ret (blkQ_ret (blkQ_ret (thenQ_ret (blkQ_ret (thenQ_ret ?_))))))))))))))
                    refine end_ret [.tmp 2] [(.bool false)] rfl hds ⟨by kernel_rfl, trivial⟩ ?_
                    have e0 : false = nameF s := by first | exact (nm_off lt_it6 (by omega) i3).symm | (rw [nm_end (by omega) i3]; simp [*]; done)
                    exact ⟨congrArg Value.bool e0, hb⟩
            · intro h22
              replace h22 : c_it6 < 48 := by omega
              refine L_mv (L_skip (by kernel_rfl) (L_skip (by kernel_rfl) (L_pickF (by kernel_rfl) (L_as (L_nil (thenQ_normal (W_false (by kernel_rfl) (W_seq (W_region (L_mv (L_cmp .i32 c_it6 95 (c_it6 = 95) rfl (cmp_eq c_it6 95) (by kernel_rfl) (by kernel_rfl) ?_ ?_)))))))))))
              · intro h23
                replace h23 : c_it6 = 95 := by omega
                refine L_as (L_nil (thenQ_normal (W_true (by kernel_rfl) (W_skip (thenQ_normal (W_true (by kernel_rfl) (W_skip (blkQ_normal (blkQ_normal ?_)))))))))
                refine thenQ_normal ⟨_, ?_, (pos + (dec s pos).2), rfl, hds, by kernel_rfl, by kernel_rfl, o_it6, hb, hs, ?_, ?_⟩
                · omega
                · omega
                · exact nm_on lt_it6 (by omega) i3
              · intro h24
                replace h24 : c_it6 ≠ 95 := by omega
                refine L_as (L_nil (thenQ_normal (W_false (by kernel_rfl) (W_region (L_mv (L_cmp .i32 c_it6 45 (c_it6 = 45) rfl (cmp_eq c_it6 45) (by kernel_rfl) (by kernel_rfl) ?_ ?_))))))
                · intro h25
                  replace h25 : c_it6 = 45 := by omega
                  refine L_as (L_nil (thenQ_normal (W_true (by kernel_rfl) (W_skip (blkQ_normal (blkQ_normal ?_))))))
                  refine thenQ_normal ⟨_, ?_, (pos + (dec s pos).2), rfl, hds, by kernel_rfl, by kernel_rfl, o_it6, hb, hs, ?_, ?_⟩
                  · omega
                  · omega
                  · exact nm_on lt_it6 (by omega) i3
                · intro h26
                  replace h26 : c_it6 ≠ 45 := by omega
                  refine L_as (L_nil (thenQ_normal (W_false (by kernel_rfl) (W_seq (W_region (L_as (L_nil (thenQ_normal (W_ret (blkQ_ret (blkQ_ret (thenQ_ret (blkQ_ret (thenQ_ret ?_))))))))))))))
                  refine end_ret [.tmp 2] [(.bool false)] rfl hds ⟨by kernel_rfl, trivial⟩ ?_
                  have e0 : false = nameF s := by first | exact (nm_off lt_it6 (by omega) i3).symm | (rw [nm_end (by omega) i3]; simp [*]; done)
                  exact ⟨congrArg Value.bool e0, hb⟩
        · intro h27
          replace h27 : c_it6 < 97 := by omega
          refine L_mv (L_skip (by kernel_rfl) (L_skip (by kernel_rfl) (L_pickF (by kernel_rfl) (L_as (L_nil (thenQ_normal (W_false (by kernel_rfl) (W_seq (W_region (L_mv (L_cmp .i32 c_it6 48 (48 ≤ c_it6) rfl (cmp_ge c_it6 48) (by kernel_rfl) (by kernel_rfl) ?_ ?_)))))))))))
          · intro h28
            replace h28 : 48 ≤ c_it6 := by omega
            refine L_mv (L_want (by kernel_rfl) (L_mv (L_want (by kernel_rfl) (L_cmp .i32 c_it6 57 (c_it6 ≤ 57) rfl (cmp_le c_it6 57) (by kernel_rfl) (by kernel_rfl) ?_ ?_))))
            · intro h29
              replace h29 : c_it6 ≤ 57 := by omega
              refine L_pickT (by kernel_rfl) (L_as (L_nil (thenQ_normal (W_true (by kernel_rfl) (W_skip (thenQ_normal (W_true (by kernel_rfl) (W_skip (blkQ_normal (blkQ_normal ?_))))))))))
              refine thenQ_normal ⟨_, ?_, (pos + (dec s pos).2), rfl, hds, by kernel_rfl, by kernel_rfl, o_it6, hb, hs, ?_, ?_⟩
              · omega
              · omega
              · exact nm_on lt_it6 (by omega) i3
            · intro h30
              replace h30 : 57 < c_it6 := by omega
              refine L_pickT (by kernel_rfl) (L_as (L_nil (thenQ_normal (W_false (by kernel_rfl) (W_seq (W_region (L_mv (L_cmp .i32 c_it6 95 (c_it6 = 95) rfl (cmp_eq c_it6 95) (by kernel_rfl) (by kernel_rfl) ?_ ?_))))))))
              · intro h31
                replace h31 : c_it6 = 95 := by omega
                refine L_as (L_nil (thenQ_normal (W_true (by kernel_rfl) (W_skip (thenQ_normal (W_true (by kernel_rfl) (W_skip (blkQ_normal (blkQ_normal ?_)))))))))
                refine thenQ_normal ⟨_, ?_, (pos + (dec s pos).2), rfl, hds, by kernel_rfl, by kernel_rfl, o_it6, hb, hs, ?_, ?_⟩
                · omega
                · omega
                · exact nm_on lt_it6 (by omega) i3
              · intro h32
                replace h32 : c_it6 ≠ 95 := by omega
                refine L_as (L_nil (thenQ_normal (W_false (by kernel_rfl) (W_region (L_mv (L_cmp .i32 c_it6 45 (c_it6 = 45) rfl (cmp_eq c_it6 45) (by kernel_rfl) (by kernel_rfl) ?_ ?_))))))
                · intro h33
                  replace h33 : c_it6 = 45 := by omega
                  refine L_as (L_nil (thenQ_normal (W_true (by kernel_rfl) (W_skip (blkQ_normal (blkQ_normal ?_))))))
                  refine thenQ_normal ⟨_, ?_, (pos + (dec s pos).2), rfl, hds, by kernel_rfl, by kernel_rfl, o_it6, hb, hs, ?_, ?_⟩
                  · omega
                  · omega
                  · exact nm_on lt_it6 (by omega) i3
                · intro h34
                  replace h34 : c_it6 ≠ 45 := by omega
                  refine L_as (L_nil (thenQ_normal (W_false (by kernel_rfl) (W_seq (W_region (L_as (L_nil (thenQ_normal (W_ret (blkQ_ret (blkQ_ret (thenQ_ret (blkQ_ret (thenQ_ret ?_))))))))))))))
                  refine end_ret [.tmp 2] [(.bool false)] rfl hds ⟨by kernel_rfl, trivial⟩ ?_
                  have e0 : false = nameF s := by first | exact (nm_off lt_it6 (by omega) i3).symm | (rw [nm_end (by omega) i3]; simp [*]; done)
                  exact ⟨congrArg Value.bool e0, hb⟩
          · intro h35
            replace h35 : c_it6 < 48 := by omega
            refine L_mv (L_skip (by kernel_rfl) (L_skip (by kernel_rfl) (L_pickF (by kernel_rfl) (L_as (L_nil (thenQ_normal (W_false (by kernel_rfl) (W_seq (W_region (L_mv (L_cmp .i32 c_it6 95 (c_it6 = 95) rfl (cmp_eq c_it6 95) (by kernel_rfl) (by kernel_rfl) ?_ ?_)))))))))))
            · intro h36
              replace h36 : c_it6 = 95 := by omega
              refine L_as (L_nil (thenQ_normal (W_true (by kernel_rfl) (W_skip (thenQ_normal (W_true (by kernel_rfl) (W_skip (blkQ_normal (blkQ_normal ?_)))))))))
              refine thenQ_normal ⟨_, ?_, (pos + (dec s pos).2), rfl, hds, by kernel_rfl, by kernel_rfl, o_it6, hb, hs, ?_, ?_⟩
              · omega
              · omega
              · exact nm_on lt_it6 (by omega) i3
            · intro h37
              replace h37 : c_it6 ≠ 95 := by omega
              refine L_as (L_nil (thenQ_normal (W_false (by kernel_rfl) (W_region (L_mv (L_cmp .i32 c_it6 45 (c_it6 = 45) rfl (cmp_eq c_it6 45) (by kernel_rfl) (by kernel_rfl) ?_ ?_))))))
              · intro h38
                replace h38 : c_it6 = 45 := by omega
                refine L_as (L_nil (thenQ_normal (W_true (by kernel_rfl) (W_skip (blkQ_normal (blkQ_normal ?_))))))
                refine thenQ_normal ⟨_, ?_, (pos + (dec s pos).2), rfl, hds, by kernel_rfl, by kernel_rfl, o_it6, hb, hs, ?_, ?_⟩
                · omega
                · omega
                · exact nm_on lt_it6 (by omega) i3
              · intro h39
                replace h39 : c_it6 ≠ 45 := by omega
                refine L_as (L_nil (thenQ_normal (W_false (by kernel_rfl) (W_seq (W_region (L_as (L_nil (thenQ_normal (W_ret (blkQ_ret (blkQ_ret (thenQ_ret (blkQ_ret (thenQ_ret ?_))))))))))))))
                refine end_ret [.tmp 2] [(.bool false)] rfl hds ⟨by kernel_rfl, trivial⟩ ?_
                have e0 : false = nameF s := by first | exact (nm_off lt_it6 (by omega) i3).symm | (rw [nm_end (by omega) i3]; simp [*]; done)
                exact ⟨congrArg Value.bool e0, hb⟩
    · intro h40
      replace h40 : c_it6 < 65 := by omega
      refine L_mv (L_skip (by kernel_rfl) (L_skip (by kernel_rfl) (L_pickF (by kernel_rfl) (L_as (L_nil (thenQ_normal (W_false (by kernel_rfl) (W_seq (W_region (L_mv (L_cmp .i32 c_it6 97 (97 ≤ c_it6) rfl (cmp_ge c_it6 97) (by kernel_rfl) (by kernel_rfl) ?_ ?_)))))))))))
      · intro h41
        replace h41 : 97 ≤ c_it6 := by omega
        refine L_mv (L_want (by kernel_rfl) (L_mv (L_want (by kernel_rfl) (L_cmp .i32 c_it6 122 (c_it6 ≤ 122) rfl (cmp_le c_it6 122) (by kernel_rfl) (by kernel_rfl) ?_ ?_))))
        · intro h42
          replace h42 : c_it6 ≤ 122 := by omega
          refine L_pickT (by kernel_rfl) (L_as (L_nil (thenQ_normal (W_true (by kernel_rfl) (W_skip (thenQ_normal (W_true (by kernel_rfl) (W_skip (blkQ_normal (blkQ_normal ?_))))))))))
          refine thenQ_normal ⟨_, ?_, (pos + (dec s pos).2), rfl, hds, by kernel_rfl, by kernel_rfl, o_it6, hb, hs, ?_, ?_⟩
          · omega
          · omega
          · exact nm_on lt_it6 (by omega) i3
        · intro h43
          replace h43 : 122 < c_it6 := by omega
          refine L_pickT (by kernel_rfl) (L_as (L_nil (thenQ_normal (W_false (by kernel_rfl) (W_seq (W_region (L_mv (L_cmp .i32 c_it6 48 (48 ≤ c_it6) rfl (cmp_ge c_it6 48) (by kernel_rfl) (by kernel_rfl) ?_ ?_))))))))
          · intro h44
            replace h44 : 48 ≤ c_it6 := by omega
            refine L_mv (L_want (by kernel_rfl) (L_mv (L_want (by kernel_rfl) (L_cmp .i32 c_it6 57 (c_it6 ≤ 57) rfl (cmp_le c_it6 57) (by kernel_rfl) (by kernel_rfl) ?_ ?_))))
            · intro h45
              replace h45 : c_it6 ≤ 57 := by omega
              refine L_pickT (by kernel_rfl) (L_as (L_nil (thenQ_normal (W_true (by kernel_rfl) (W_skip (thenQ_normal (W_true (by kernel_rfl) (W_skip (blkQ_normal (blkQ_normal ?_))))))))))
              refine thenQ_normal ⟨_, ?_, (pos + (dec s pos).2), rfl, hds, by kernel_rfl, by kernel_rfl, o_it6, hb, hs, ?_, ?_⟩
              · omega
              · omega
              · exact nm_on lt_it6 (by omega) i3
            · intro h46
              replace h46 : 57 < c_it6 := by omega
              refine L_pickT (by kernel_rfl) (L_as (L_nil (thenQ_normal (W_false (by kernel_rfl) (W_seq (W_region (L_mv (L_cmp .i32 c_it6 95 (c_it6 = 95) rfl (cmp_eq c_it6 95) (by kernel_rfl) (by kernel_rfl) ?_ ?_))))))))
              · intro h47
                replace h47 : c_it6 = 95 := by omega
                refine L_as (L_nil (thenQ_normal (W_true (by kernel_rfl) (W_skip (thenQ_normal (W_true (by kernel_rfl) (W_skip (blkQ_normal (blkQ_normal ?_)))))))))
                refine thenQ_normal ⟨_, ?_, (pos + (dec s pos).2), rfl, hds, by kernel_rfl, by kernel_rfl, o_it6, hb, hs, ?_, ?_⟩
                · omega
                · omega
                · exact nm_on lt_it6 (by omega) i3
              · intro h48
                replace h48 : c_it6 ≠ 95 := by omega
                refine L_as (L_nil (thenQ_normal (W_false (by kernel_rfl) (W_region (L_mv (L_cmp .i32 c_it6 45 (c_it6 = 45) rfl (cmp_eq c_it6 45) (by kernel_rfl) (by kernel_rfl) ?_ ?_))))))
                · intro h49
                  replace h49 : c_it6 = 45 := by omega
                  refine L_as (L_nil (thenQ_normal (W_true (by kernel_rfl) (W_skip (blkQ_normal (blkQ_normal ?_))))))
                  refine thenQ_normal ⟨_, ?_, (pos + (dec s pos).2), rfl, hds, by kernel_rfl, by kernel_rfl, o_it6, hb, hs, ?_, ?_⟩
                  · omega
                  · omega
                  · exact nm_on lt_it6 (by omega) i3
                · intro h50
                  replace h50 : c_it6 ≠ 45 := by omega
                  refine L_as (L_nil (thenQ_normal (W_false (by kernel_rfl) (W_seq (W_region (L_as (L_nil (thenQ_normal (W_ret (blkQ_ret (blkQ_ret (thenQ_ret (blkQ_ret (thenQ_ret ?_))))))))))))))
                  refine end_ret [.tmp 2] [(.bool false)] rfl hds ⟨by kernel_rfl, trivial⟩ ?_
                  have e0 : false = nameF s := by first | exact (nm_off lt_it6 (by omega) i3).symm | (rw [nm_end (by omega) i3]; simp [*]; done)
                  exact ⟨congrArg Value.bool e0, hb⟩
          · intro h51
            replace h51 : c_it6 < 48 := by omega
            refine L_mv (L_skip (by kernel_rfl) (L_skip (by kernel_rfl) (L_pickF (by kernel_rfl) (L_as (L_nil (thenQ_normal (W_false (by kernel_rfl) (W_seq (W_region (L_mv (L_cmp .i32 c_it6 95 (c_it6 = 95) rfl (cmp_eq c_it6 95) (by kernel_rfl) (by kernel_rfl) ?_ ?_)))))))))))
            · intro h52
              replace h52 : c_it6 = 95 := by omega
              refine L_as (L_nil (thenQ_normal (W_true (by kernel_rfl) (W_skip (thenQ_normal (W_true (by kernel_rfl) (W_skip (blkQ_normal (blkQ_normal ?_)))))))))
              refine thenQ_normal ⟨_, ?_, (pos + (dec s pos).2), rfl, hds, by kernel_rfl, by kernel_rfl, o_it6, hb, hs, ?_, ?_⟩
              · omega
              · omega
              · exact nm_on lt_it6 (by omega) i3
            · intro h53
              replace h53 : c_it6 ≠ 95 := by omega
              refine L_as (L_nil (thenQ_normal (W_false (by kernel_rfl) (W_region (L_mv (L_cmp .i32 c_it6 45 (c_it6 = 45) rfl (cmp_eq c_it6 45) (by kernel_rfl) (by kernel_rfl) ?_ ?_))))))
              · intro h54
                replace h54 : c_it6 = 45 := by omega
                refine L_as (L_nil (thenQ_normal (W_true (by kernel_rfl) (W_skip (blkQ_normal (blkQ_normal ?_))))))
                refine thenQ_normal ⟨_, ?_, (pos + (dec s pos).2), rfl, hds, by kernel_rfl, by kernel_rfl, o_it6, hb, hs, ?_, ?_⟩
                · omega
                · omega
                · exact nm_on lt_it6 (by omega) i3
              · intro h55
                replace h55 : c_it6 ≠ 45 := by omega
                refine L_as (L_nil (thenQ_normal (W_false (by kernel_rfl) (W_seq (W_region (L_as (L_nil (thenQ_normal (W_ret (blkQ_ret (blkQ_ret (thenQ_ret (blkQ_ret (thenQ_ret ?_))))))))))))))
                refine end_ret [.tmp 2] [(.bool false)] rfl hds ⟨by kernel_rfl, trivial⟩ ?_
                have e0 : false = nameF s := by first | exact (nm_off lt_it6 (by omega) i3).symm | (rw [nm_end (by omega) i3]; simp [*]; done)
                exact ⟨congrArg Value.bool e0, hb⟩
      · intro h56
        replace h56 : c_it6 < 97 := by omega
        refine L_mv (L_skip (by kernel_rfl) (L_skip (by kernel_rfl) (L_pickF (by kernel_rfl) (L_as (L_nil (thenQ_normal (W_false (by kernel_rfl) (W_seq (W_region (L_mv (L_cmp .i32 c_it6 48 (48 ≤ c_it6) rfl (cmp_ge c_it6 48) (by kernel_rfl) (by kernel_rfl) ?_ ?_)))))))))))
        · intro h57
          replace h57 : 48 ≤ c_it6 := by omega
          refine L_mv (L_want (by kernel_rfl) (L_mv (L_want (by kernel_rfl) (L_cmp .i32 c_it6 57 (c_it6 ≤ 57) rfl (cmp_le c_it6 57) (by kernel_rfl) (by kernel_rfl) ?_ ?_))))
          · intro h58
            replace h58 : c_it6 ≤ 57 := by omega
            refine L_pickT (by kernel_rfl) (L_as (L_nil (thenQ_normal (W_true (by kernel_rfl) (W_skip (thenQ_normal (W_true (by kernel_rfl) (W_skip (blkQ_normal (blkQ_normal ?_))))))))))
            refine thenQ_normal ⟨_, ?_, (pos + (dec s pos).2), rfl, hds, by kernel_rfl, by kernel_rfl, o_it6, hb, hs, ?_, ?_⟩
            · omega
            · omega
            · exact nm_on lt_it6 (by omega) i3
          · intro h59
            replace h59 : 57 < c_it6 := by omega
            refine L_pickT (by kernel_rfl) (L_as (L_nil (thenQ_normal (W_false (by kernel_rfl) (W_seq (W_region (L_mv (L_cmp .i32 c_it6 95 (c_it6 = 95) rfl (cmp_eq c_it6 95) (by kernel_rfl) (by kernel_rfl) ?_ ?_))))))))
            · intro h60
              replace h60 : c_it6 = 95 := by omega
              refine L_as (L_nil (thenQ_normal (W_true (by kernel_rfl) (W_skip (thenQ_normal (W_true (by kernel_rfl) (W_skip (blkQ_normal (blkQ_normal ?_)))))))))
              refine thenQ_normal ⟨_, ?_, (pos + (dec s pos).2), rfl, hds, by kernel_rfl, by kernel_rfl, o_it6, hb, hs, ?_, ?_⟩
              · omega
              · omega
              · exact nm_on lt_it6 (by omega) i3
            · intro h61
              replace h61 : c_it6 ≠ 95 := by omega
              refine L_as (L_nil (thenQ_normal (W_false (by kernel_rfl) (W_region (L_mv (L_cmp .i32 c_it6 45 (c_it6 = 45) rfl (cmp_eq c_it6 45) (by kernel_rfl) (by kernel_rfl) ?_ ?_))))))
              · intro h62
                replace h62 : c_it6 = 45 := by omega
                refine L_as (L_nil (thenQ_normal (W_true (by kernel_rfl) (W_skip (blkQ_normal (blkQ_normal ?_))))))
                refine thenQ_normal ⟨_, ?_, (pos + (dec s pos).2), rfl, hds, by kernel_rfl, by kernel_rfl, o_it6, hb, hs, ?_, ?_⟩
                · omega
                · omega
                · exact nm_on lt_it6 (by omega) i3
              · intro h63
                replace h63 : c_it6 ≠ 45 := by omega
                refine L_as (L_nil (thenQ_normal (W_false (by kernel_rfl) (W_seq (W_region (L_as (L_nil (thenQ_normal (W_ret (blkQ_ret (blkQ_ret (thenQ_ret (blkQ_ret (thenQ_ret ?_))))))))))))))
                refine end_ret [.tmp 2] [(.bool false)] rfl hds ⟨by kernel_rfl, trivial⟩ ?_
                have e0 : false = nameF s := by first | exact (nm_off lt_it6 (by omega) i3).symm | (rw [nm_end (by omega) i3]; simp [*]; done)
                exact ⟨congrArg Value.bool e0, hb⟩
        · intro h64
          replace h64 : c_it6 < 48 := by omega
          refine L_mv (L_skip (by kernel_rfl) (L_skip (by kernel_rfl) (L_pickF (by kernel_rfl) (L_as (L_nil (thenQ_normal (W_false (by kernel_rfl) (W_seq (W_region (L_mv (L_cmp .i32 c_it6 95 (c_it6 = 95) rfl (cmp_eq c_it6 95) (by kernel_rfl) (by kernel_rfl) ?_ ?_)))))))))))
          · intro h65
            replace h65 : c_it6 = 95 := by omega
            refine L_as (L_nil (thenQ_normal (W_true (by kernel_rfl) (W_skip (thenQ_normal (W_true (by kernel_rfl) (W_skip (blkQ_normal (blkQ_normal ?_)))))))))
            refine thenQ_normal ⟨_, ?_, (pos + (dec s pos).2), rfl, hds, by kernel_rfl, by kernel_rfl, o_it6, hb, hs, ?_, ?_⟩
            · omega
            · omega
            · exact nm_on lt_it6 (by omega) i3
          · intro h66
            replace h66 : c_it6 ≠ 95 := by omega
            refine L_as (L_nil (thenQ_normal (W_false (by kernel_rfl) (W_region (L_mv (L_cmp .i32 c_it6 45 (c_it6 = 45) rfl (cmp_eq c_it6 45) (by kernel_rfl) (by kernel_rfl) ?_ ?_))))))
            · intro h67
              replace h67 : c_it6 = 45 := by omega
              refine L_as (L_nil (thenQ_normal (W_true (by kernel_rfl) (W_skip (blkQ_normal (blkQ_normal ?_))))))
              refine thenQ_normal ⟨_, ?_, (pos + (dec s pos).2), rfl, hds, by kernel_rfl, by kernel_rfl, o_it6, hb, hs, ?_, ?_⟩
              · omega
              · omega
              · exact nm_on lt_it6 (by omega) i3
            · intro h68
              replace h68 : c_it6 ≠ 45 := by omega
              refine L_as (L_nil (thenQ_normal (W_false (by kernel_rfl) (W_seq (W_region (L_as (L_nil (thenQ_normal (W_ret (blkQ_ret (blkQ_ret (thenQ_ret (blkQ_ret (thenQ_ret ?_))))))))))))))
              refine end_ret [.tmp 2] [(.bool false)] rfl hds ⟨by kernel_rfl, trivial⟩ ?_
              have e0 : false = nameF s := by first | exact (nm_off lt_it6 (by omega) i3).symm | (rw [nm_end (by omega) i3]; simp [*]; done)
              exact ⟨congrArg Value.bool e0, hb⟩
  · refine L_nextEnd s b1 pos (by kernel_rfl) o_it6 ge_it6 (L_run (.bool false) (by kernel_rfl) (by kernel_rfl) (L_nil (thenQ_normal (W_seq (W_false (by kernel_rfl) (W_exit (thenQ_exit (thenQ_exit (blkQ_exit (thenQ_normal (W_seq (W_region (L_mv (L_sne s ([] : List UInt8) rfl (by kernel_rfl) (by kernel_rfl) ?_ ?_))))))))))))))
    · intro h69
      refine L_as (L_nil (thenQ_normal (W_ret ?_)))
      refine end_ret [.tmp 2] [(.bool true)] rfl hds ⟨by kernel_rfl, trivial⟩ ?_
      have e0 : true = nameF s := by first | exact (nm_off lt_it6 (by omega) i3).symm | (rw [nm_end (by omega) i3]; simp [*]; done)
      exact ⟨congrArg Value.bool e0, hb⟩
    · intro h70
      refine L_as (L_nil (thenQ_normal (W_ret ?_)))
      refine end_ret [.tmp 2] [(.bool false)] rfl hds ⟨by kernel_rfl, trivial⟩ ?_
      have e0 : false = nameF s := by first | exact (nm_off lt_it6 (by omega) i3).symm | (rw [nm_end (by omega) i3]; simp [*]; done)
      exact ⟨congrArg Value.bool e0, hb⟩

set_option maxHeartbeats 4000000 in
set_option maxRecDepth 100000 in
theorem c_lines_pieces (s : List UInt8) (w : World) (hs : s.length ≤ 1073741824) :
    Calls Tryd.prog 68 #[(S s)] w (Ret fun v w' => ∃ (q0 : Value), v = q0 ∧ Row w' w.heap.size 135 3 encPc q0 (pcsI s) ∧ Below w.heap.size w w') := by
  refine enter (args := [(S s)]) Tryd.func68 rfl (by kernel_rfl : _ = 53) (by kernel_rfl) ?_
  have hb := Below.refl w.heap.size w
  have hs : w.heap.size ≤ w.heap.size := Nat.le_refl _
  have hml := mark_len s
  refine W_seq (W_region (L_as (L_nil (thenQ_normal (W_seq (W_region (L_as (L_nil (thenQ_normal (W_seq (W_region (L_as (L_nil (thenQ_normal (W_seq (W_seq (W_region (L_mv (L_call 29 [(S s), (S ([239, 187, 191] : List UInt8))] (by kernel_rfl) (by kernel_rfl) (c_strings_HasPrefix s ([239, 187, 191] : List UInt8) _ ) ?_)))))))))))))))))))
  rintro _ w1 ⟨rfl, hB2⟩
  replace hb := hb.trans (hB2.mono hs)
  replace hs := Nat.le_trans hs (hB2.size)
  refine put_split (hpB s ([239, 187, 191] : List UInt8)) ?_ ?_
  · intro h4
    have := hp_len h4; simp only [List.length_cons, List.length_nil] at this
    refine L_nil (thenQ_normal (W_true (by kernel_rfl) (W_region (L_as (L_nil (thenQ_normal (W_block ?_)))))))
    refine W_loop (fun m s0 w0 => ∃ (a : Int) (acc : List (Int × Int × Int)) (v_3 : Value), (m = s.length - a.toNat) ∧ (s0.ds = []) ∧ (s0.f 0 = (S s)) ∧ (s0.f 3 = v_3) ∧ (s0.f 4 = (.int .i64 a)) ∧ (Row w0 w.heap.size 135 3 encPc v_3 acc) ∧ (Below w.heap.size w w0) ∧ (w.heap.size ≤ w0.heap.size) ∧ (0 ≤ a) ∧ (a ≤ s.length) ∧ (acc.length ≤ a.toNat) ∧ (acc ++ (pcsFrom s a.toNat a.toNat).map toI = pcsI s)) _ ⟨3, [], (.slice none 0 0), rfl, by kernel_rfl, by kernel_rfl, by kernel_rfl, by kernel_rfl, Row.nil _ _ _ _ _, hb, hs, by omega, by omega, (by simp), (by simp [pcsI, markN, markT, *])⟩ ?_
    rintro m5 s6 w7 ⟨a, acc, v_3, hm, hds, f_0, f_3, f_4, r_3, hb, hs, i1, i2, i4, i3⟩
    refine W_set 0 _ f_0 (W_set 3 _ f_3 (W_set 4 _ f_4 ?_))
    clear f_0 f_3 f_4
    have hdl : (List.drop a.toNat s).length = s.length - a.toNat := List.length_drop
    refine W_block (W_seq (W_region (L_mv (L_mv (L_ssfrom s ((a).toNat) Tryd.underlying9 (by kernel_rfl) (toNat_val a .i64 (by kernel_rfl) (by omega)) (by first | omega | (simp only [List.length_drop]; omega)) (L_call 47 [(S (List.drop ((a).toNat) s)), (.int .u8 10)] (by kernel_rfl) (by kernel_rfl) (c_strings_IndexByte (List.drop ((a).toNat) s) 10 _ ) ?_))))))
    rintro _ w8 ⟨rfl, hB9⟩
    replace hb := hb.trans (hB9.mono hs)
    replace hs := Nat.le_trans hs (hB9.size)
    replace r_3 := r_3.below hB9
    have := ib_range (List.drop ((a).toNat) s) 10
    refine L_as (L_nil (thenQ_normal (W_seq (W_seq (W_region (L_mv (L_cmp .i64 (ibF (List.drop ((a).toNat) s) 10) 0 ((ibF (List.drop ((a).toNat) s) 10) < 0) rfl (cmp_lt (ibF (List.drop ((a).toNat) s) 10) 0) (by kernel_rfl) (by kernel_rfl) ?_ ?_)))))))
    · intro h11
      replace h11 : (ibF (List.drop ((a).toNat) s) 10) < 0 := by omega
      refine L_nil (thenQ_normal (W_true (by kernel_rfl) (W_seq (W_region (L_mv (L_mv (L_mv (L_slen 9 s rfl Tryd.underlying9 (by kernel_rfl) (L_mv (L_slen 9 s rfl Tryd.underlying9 (by kernel_rfl) (L_run (Value.agg #[(.int .i64 a), (.int .i64 (((s).length : Nat) : Int)), (.int .i64 (((s).length : Nat) : Int))]) (by kernel_rfl) (by kernel_rfl) (L_app el132 w.heap.size v_3 acc (a, (((s).length : Nat) : Int), (((s).length : Nat) : Int)) hs r_3 (by omega) (by kernel_rfl) rfl rfl (by kernel_rfl) rfl (by kernel_rfl) (by kernel_rfl) ?_))))))))))))
      intro v12 w13 hr14 hg15 how16
      replace hb := hb.grown hg15 hs (fun k hk => (World.ownsRow.lt r_3 k hk).1)
      replace hs := Nat.le_trans hs (hg15.size)
      replace r_3 := hr14
      refine L_as (L_nil (thenQ_normal (W_ret (thenQ_ret (blkQ_ret (thenQ_ret (blkQ_ret ?_)))))))
      refine end_ret [.tmp 2] [v12] rfl hds ⟨by kernel_rfl, trivial⟩ ?_
      have e51 : (acc ++ [(a, (((s).length : Nat) : Int), (((s).length : Nat) : Int))]) = pcsI s := by exact pcsZ_end i1 i2 (by omega) i3
      exact ⟨v12, rfl, r_3.cast e51, hb⟩
    · intro h17
      replace h17 : 0 ≤ (ibF (List.drop ((a).toNat) s) 10) := by omega
      refine L_nil (thenQ_normal (W_false (by kernel_rfl) (W_skip (thenQ_normal (W_seq (W_region (L_mv (L_mv (L_mv (L_arith a (ibF (List.drop ((a).toNat) s) 10) (a + (ibF (List.drop ((a).toNat) s) 10)) rfl (by kernel_rfl) (by kernel_rfl) (wrap_i64 _ (by simp only [arithZ]; omega) (by simp only [arithZ]; omega)) (L_mv (L_mv (L_arith a (ibF (List.drop ((a).toNat) s) 10) (a + (ibF (List.drop ((a).toNat) s) 10)) rfl (by kernel_rfl) (by kernel_rfl) (wrap_i64 _ (by simp only [arithZ]; omega) (by simp only [arithZ]; omega)) (L_arith (a + (ibF (List.drop ((a).toNat) s) 10)) 1 ((a + (ibF (List.drop ((a).toNat) s) 10)) + 1) rfl (by kernel_rfl) (by kernel_rfl) (wrap_i64 _ (by simp only [arithZ]; omega) (by simp only [arithZ]; omega)) (L_run (Value.agg #[(.int .i64 a), (.int .i64 (a + (ibF (List.drop ((a).toNat) s) 10))), (.int .i64 ((a + (ibF (List.drop ((a).toNat) s) 10)) + 1))]) (by kernel_rfl) (by kernel_rfl) (L_new (fun b => .pointer (some ⟨b, 0, none⟩)) (.cells [(.int .i64 0), (.int .i64 0), (.int .i64 0)].toArray 135 (0, 0)) (by kernel_rfl) (by kernel_rfl) ?_))))))))))))))))
      intro b18 w19 hN20
      have g_x6 : w.heap.size ≤ b18 := by rw [hN20.num]; exact hs
      have nb_o_x6_r_3 := r_3.new_ne hN20
      replace hb := hb.trans (hN20.below.mono hs)
      replace hs := Nat.le_trans hs (hN20.below.size)
      replace r_3 := r_3.below hN20.below
      have o_x6 := hN20.here
      refine L_storeA b18 0 [(.int .i64 a), (.int .i64 (a + (ibF (List.drop ((a).toNat) s) 10))), (.int .i64 ((a + (ibF (List.drop ((a).toNat) s) 10)) + 1))] [(.int .i64 0), (.int .i64 0), (.int .i64 0)] [(.int .i64 a), (.int .i64 (a + (ibF (List.drop ((a).toNat) s) 10))), (.int .i64 ((a + (ibF (List.drop ((a).toNat) s) 10)) + 1))] 135 (by kernel_rfl) (by kernel_rfl) rfl (by kernel_rfl) o_x6 (by kernel_rfl) rfl ?_
      intro w21 hW22
      replace hb := hb.trans (hW22.below g_x6)
      replace hs := Nat.le_trans hs (Nat.le_of_eq hW22.size.symm)
      have n_r_3 := r_3.wrote hW22 nb_o_x6_r_3
      replace r_3 := n_r_3; clear n_r_3
      replace o_x6 := hW22.here
      refine L_nil (thenQ_normal (W_seq (W_seq (W_region (L_mv (L_cmp .i64 (ibF (List.drop ((a).toNat) s) 10) 0 (0 < (ibF (List.drop ((a).toNat) s) 10)) rfl (cmp_gt (ibF (List.drop ((a).toNat) s) 10) 0) (by kernel_rfl) (by kernel_rfl) ?_ ?_))))))
      · intro h23
        replace h23 : 0 < (ibF (List.drop ((a).toNat) s) 10) := by omega
        refine L_mv (L_want (by kernel_rfl) (L_mv (L_want (by kernel_rfl) (L_run (.pointer (some ⟨b18, 1, none⟩)) (by kernel_rfl) (by kernel_rfl) (L_want (by kernel_rfl) (L_load b18 1 (.int .i64 (a + (ibF (List.drop ((a).toNat) s) 10))) (by kernel_rfl) (by kernel_rfl) (cell_obj o_x6 rfl) (L_want (by kernel_rfl) (L_arith (a + (ibF (List.drop ((a).toNat) s) 10)) 1 ((a + (ibF (List.drop ((a).toNat) s) 10)) - 1) rfl (by kernel_rfl) (by kernel_rfl) (wrap_i64 _ (by simp only [arithZ]; omega) (by simp only [arithZ]; omega)) (L_want (by kernel_rfl) ?_)))))))))
        have hz := get_some s (((a + (ibF (List.drop ((a).toNat) s) 10)) - 1).toNat) (by first | omega | (simp only [List.length_drop]; omega)); obtain ⟨c24, hc25⟩ := hz
        have := c24.toNat_lt
        refine L_sindexZ (k := .i64) s ((a + (ibF (List.drop ((a).toNat) s) 10)) - 1) (((a + (ibF (List.drop ((a).toNat) s) 10)) - 1).toNat) c24 (by omega) Tryd.underlying9 hc25 (by kernel_rfl) (by kernel_rfl) (L_want (by kernel_rfl) (L_cmp .u8 ((c24.toNat : Nat) : Int) ((13 : Nat) : Int) (c24.toNat = 13) rfl (cmpN_eq c24.toNat 13) (by kernel_rfl) (by kernel_rfl) ?_ ?_))
        · intro h26
          replace h26 : c24.toNat = 13 := by omega
          refine L_pickT (by kernel_rfl) (L_nil (thenQ_normal (W_true (by kernel_rfl) (W_region (L_run (.pointer (some ⟨b18, 1, none⟩)) (by kernel_rfl) (by kernel_rfl) (L_load b18 1 (.int .i64 (a + (ibF (List.drop ((a).toNat) s) 10))) (by kernel_rfl) (by kernel_rfl) (cell_obj o_x6 rfl) (L_arith (a + (ibF (List.drop ((a).toNat) s) 10)) 1 ((a + (ibF (List.drop ((a).toNat) s) 10)) - 1) rfl (by kernel_rfl) (by kernel_rfl) (wrap_i64 _ (by simp only [arithZ]; omega) (by simp only [arithZ]; omega)) (L_run (.pointer (some ⟨b18, 1, none⟩)) (by kernel_rfl) (by kernel_rfl) (L_store b18 1 (.int .i64 ((a + (ibF (List.drop ((a).toNat) s) 10)) - 1)) [(.int .i64 a), (.int .i64 (a + (ibF (List.drop ((a).toNat) s) 10))), (.int .i64 ((a + (ibF (List.drop ((a).toNat) s) 10)) + 1))] [(.int .i64 a), (.int .i64 ((a + (ibF (List.drop ((a).toNat) s) 10)) - 1)), (.int .i64 ((a + (ibF (List.drop ((a).toNat) s) 10)) + 1))] 135 (by kernel_rfl) (by kernel_rfl) rfl (by kernel_rfl) o_x6 (by simp) rfl ?_)))))))))
          intro w27 hW28
          replace hb := hb.trans (hW28.below g_x6)
          replace hs := Nat.le_trans hs (Nat.le_of_eq hW28.size.symm)
          have n_r_3 := r_3.wrote hW28 nb_o_x6_r_3
          replace r_3 := n_r_3; clear n_r_3
          replace o_x6 := hW28.here
          refine L_nil (thenQ_normal (W_seq (W_region (L_mv (L_loadA b18 0 [(.int .i64 a), (.int .i64 ((a + (ibF (List.drop ((a).toNat) s) 10)) - 1)), (.int .i64 ((a + (ibF (List.drop ((a).toNat) s) 10)) + 1))] (by kernel_rfl) (by kernel_rfl) (by kernel_rfl) (cells_at o_x6 0 (by kernel_rfl)) (L_app el132 w.heap.size v_3 acc (a, ((a + (ibF (List.drop ((a).toNat) s) 10)) - 1), ((a + (ibF (List.drop ((a).toNat) s) 10)) + 1)) hs r_3 (by omega) (by kernel_rfl) rfl rfl (by kernel_rfl) rfl (by kernel_rfl) (by kernel_rfl) ?_))))))
          intro v29 w30 hr31 hg32 how33
          have nc_o_x6 := ownb_app how33 nb_o_x6_r_3 (obj_lt o_x6)
          replace hb := hb.grown hg32 hs (fun k hk => (World.ownsRow.lt r_3 k hk).1)
          replace hs := Nat.le_trans hs (hg32.size)
          have n_o_x6 := obj_grown o_x6 hg32 nb_o_x6_r_3
          replace o_x6 := n_o_x6; clear n_o_x6
          have nb_o_x6_r_3 := nc_o_x6
          replace r_3 := hr31
          refine L_as (L_nil (thenQ_normal (W_region (L_run (.pointer (some ⟨b18, 2, none⟩)) (by kernel_rfl) (by kernel_rfl) (L_load b18 2 (.int .i64 ((a + (ibF (List.drop ((a).toNat) s) 10)) + 1)) (by kernel_rfl) (by kernel_rfl) (cell_obj o_x6 rfl) (L_as (L_nil (blkQ_normal ?_))))))))
          refine thenQ_normal ⟨_, ?_, ((a + (ibF (List.drop ((a).toNat) s) 10)) + 1), (acc ++ [(a, ((a + (ibF (List.drop ((a).toNat) s) 10)) - 1), ((a + (ibF (List.drop ((a).toNat) s) 10)) + 1))]), v29, rfl, hds, by kernel_rfl, by kernel_rfl, by kernel_rfl, r_3, hb, hs, ?_, ?_, ?_, ?_⟩
          · omega
          · omega
          · omega
          · simp only [List.length_append, List.length_cons, List.length_nil]; omega
          · first | exact pcsZ_step i1 rfl (by omega) (.inl ⟨rfl, by omega, _, by assumption, by assumption⟩) i3 | exact pcsZ_step i1 rfl (by omega) (.inr ⟨rfl, .inl (by omega)⟩) i3 | exact pcsZ_step i1 rfl (by omega) (.inr ⟨rfl, .inr ⟨_, by assumption, by assumption⟩⟩) i3
        · intro h34
          replace h34 : c24.toNat ≠ 13 := by omega
          refine L_pickT (by kernel_rfl) (L_nil (thenQ_normal (W_false (by kernel_rfl) (W_skip (thenQ_normal (W_seq (W_region (L_mv (L_loadA b18 0 [(.int .i64 a), (.int .i64 (a + (ibF (List.drop ((a).toNat) s) 10))), (.int .i64 ((a + (ibF (List.drop ((a).toNat) s) 10)) + 1))] (by kernel_rfl) (by kernel_rfl) (by kernel_rfl) (cells_at o_x6 0 (by kernel_rfl)) (L_app el132 w.heap.size v_3 acc (a, (a + (ibF (List.drop ((a).toNat) s) 10)), ((a + (ibF (List.drop ((a).toNat) s) 10)) + 1)) hs r_3 (by omega) (by kernel_rfl) rfl rfl (by kernel_rfl) rfl (by kernel_rfl) (by kernel_rfl) ?_))))))))))
          intro v35 w36 hr37 hg38 how39
          have nc_o_x6 := ownb_app how39 nb_o_x6_r_3 (obj_lt o_x6)
          replace hb := hb.grown hg38 hs (fun k hk => (World.ownsRow.lt r_3 k hk).1)
          replace hs := Nat.le_trans hs (hg38.size)
          have n_o_x6 := obj_grown o_x6 hg38 nb_o_x6_r_3
          replace o_x6 := n_o_x6; clear n_o_x6
          have nb_o_x6_r_3 := nc_o_x6
          replace r_3 := hr37
          refine L_as (L_nil (thenQ_normal (W_region (L_run (.pointer (some ⟨b18, 2, none⟩)) (by kernel_rfl) (by kernel_rfl) (L_load b18 2 (.int .i64 ((a + (ibF (List.drop ((a).toNat) s) 10)) + 1)) (by kernel_rfl) (by kernel_rfl) (cell_obj o_x6 rfl) (L_as (L_nil (blkQ_normal ?_))))))))
          refine thenQ_normal ⟨_, ?_, ((a + (ibF (List.drop ((a).toNat) s) 10)) + 1), (acc ++ [(a, (a + (ibF (List.drop ((a).toNat) s) 10)), ((a + (ibF (List.drop ((a).toNat) s) 10)) + 1))]), v35, rfl, hds, by kernel_rfl, by kernel_rfl, by kernel_rfl, r_3, hb, hs, ?_, ?_, ?_, ?_⟩
          · omega
          · omega
          · omega
          · simp only [List.length_append, List.length_cons, List.length_nil]; omega
          · first | exact pcsZ_step i1 rfl (by omega) (.inl ⟨rfl, by omega, _, by assumption, by assumption⟩) i3 | exact pcsZ_step i1 rfl (by omega) (.inr ⟨rfl, .inl (by omega)⟩) i3 | exact pcsZ_step i1 rfl (by omega) (.inr ⟨rfl, .inr ⟨_, by assumption, by assumption⟩⟩) i3
      · intro h40
        replace h40 : (ibF (List.drop ((a).toNat) s) 10) ≤ 0 := by omega
        refine L_mv (L_skip (by kernel_rfl) (L_skip (by kernel_rfl) (L_skip (by kernel_rfl) (L_skip (by kernel_rfl) (L_skip (by kernel_rfl) (L_skip (by kernel_rfl) (L_pickF (by kernel_rfl) (L_nil (thenQ_normal (W_false (by kernel_rfl) (W_skip (thenQ_normal (W_seq (W_region (L_mv (L_loadA b18 0 [(.int .i64 a), (.int .i64 (a + (ibF (List.drop ((a).toNat) s) 10))), (.int .i64 ((a + (ibF (List.drop ((a).toNat) s) 10)) + 1))] (by kernel_rfl) (by kernel_rfl) (by kernel_rfl) (cells_at o_x6 0 (by kernel_rfl)) (L_app el132 w.heap.size v_3 acc (a, (a + (ibF (List.drop ((a).toNat) s) 10)), ((a + (ibF (List.drop ((a).toNat) s) 10)) + 1)) hs r_3 (by omega) (by kernel_rfl) rfl rfl (by kernel_rfl) rfl (by kernel_rfl) (by kernel_rfl) ?_)))))))))))))))))
        intro v41 w42 hr43 hg44 how45
        have nc_o_x6 := ownb_app how45 nb_o_x6_r_3 (obj_lt o_x6)
        replace hb := hb.grown hg44 hs (fun k hk => (World.ownsRow.lt r_3 k hk).1)
        replace hs := Nat.le_trans hs (hg44.size)
        have n_o_x6 := obj_grown o_x6 hg44 nb_o_x6_r_3
        replace o_x6 := n_o_x6; clear n_o_x6
        have nb_o_x6_r_3 := nc_o_x6
        replace r_3 := hr43
        refine L_as (L_nil (thenQ_normal (W_region (L_run (.pointer (some ⟨b18, 2, none⟩)) (by kernel_rfl) (by kernel_rfl) (L_load b18 2 (.int .i64 ((a + (ibF (List.drop ((a).toNat) s) 10)) + 1)) (by kernel_rfl) (by kernel_rfl) (cell_obj o_x6 rfl) (L_as (L_nil (blkQ_normal ?_))))))))
        refine thenQ_normal ⟨_, ?_, ((a + (ibF (List.drop ((a).toNat) s) 10)) + 1), (acc ++ [(a, (a + (ibF (List.drop ((a).toNat) s) 10)), ((a + (ibF (List.drop ((a).toNat) s) 10)) + 1))]), v41, rfl, hds, by kernel_rfl, by kernel_rfl, by kernel_rfl, r_3, hb, hs, ?_, ?_, ?_, ?_⟩
        · omega
        · omega
        · omega
        · simp only [List.length_append, List.length_cons, List.length_nil]; omega
        · first | exact pcsZ_step i1 rfl (by omega) (.inl ⟨rfl, by omega, _, by assumption, by assumption⟩) i3 | exact pcsZ_step i1 rfl (by omega) (.inr ⟨rfl, .inl (by omega)⟩) i3 | exact pcsZ_step i1 rfl (by omega) (.inr ⟨rfl, .inr ⟨_, by assumption, by assumption⟩⟩) i3
  · intro h46
    refine L_nil (thenQ_normal (W_false (by kernel_rfl) (W_skip (thenQ_normal (W_block ?_)))))
    refine W_loop (fun m s0 w0 => ∃ (a : Int) (acc : List (Int × Int × Int)) (v_3 : Value), (m = s.length - a.toNat) ∧ (s0.ds = []) ∧ (s0.f 0 = (S s)) ∧ (s0.f 3 = v_3) ∧ (s0.f 4 = (.int .i64 a)) ∧ (Row w0 w.heap.size 135 3 encPc v_3 acc) ∧ (Below w.heap.size w w0) ∧ (w.heap.size ≤ w0.heap.size) ∧ (0 ≤ a) ∧ (a ≤ s.length) ∧ (acc.length ≤ a.toNat) ∧ (acc ++ (pcsFrom s a.toNat a.toNat).map toI = pcsI s)) _ ⟨0, [], (.slice none 0 0), rfl, by kernel_rfl, by kernel_rfl, by kernel_rfl, by kernel_rfl, Row.nil _ _ _ _ _, hb, hs, by omega, by omega, (by simp), (by simp [pcsI, markN, markT, *])⟩ ?_
    rintro m47 s48 w49 ⟨a, acc, v_3, hm, hds, f_0, f_3, f_4, r_3, hb, hs, i1, i2, i4, i3⟩
    refine W_set 0 _ f_0 (W_set 3 _ f_3 (W_set 4 _ f_4 ?_))
    clear f_0 f_3 f_4
    have hdl : (List.drop a.toNat s).length = s.length - a.toNat := List.length_drop
    refine W_block (W_seq (W_region (L_mv (L_mv (L_ssfrom s ((a).toNat) Tryd.underlying9 (by kernel_rfl) (toNat_val a .i64 (by kernel_rfl) (by omega)) (by first | omega | (simp only [List.length_drop]; omega)) (L_call 47 [(S (List.drop ((a).toNat) s)), (.int .u8 10)] (by kernel_rfl) (by kernel_rfl) (c_strings_IndexByte (List.drop ((a).toNat) s) 10 _ ) ?_))))))
    rintro _ w50 ⟨rfl, hB51⟩
    replace hb := hb.trans (hB51.mono hs)
    replace hs := Nat.le_trans hs (hB51.size)
    replace r_3 := r_3.below hB51
    have := ib_range (List.drop ((a).toNat) s) 10
    refine L_as (L_nil (thenQ_normal (W_seq (W_seq (W_region (L_mv (L_cmp .i64 (ibF (List.drop ((a).toNat) s) 10) 0 ((ibF (List.drop ((a).toNat) s) 10) < 0) rfl (cmp_lt (ibF (List.drop ((a).toNat) s) 10) 0) (by kernel_rfl) (by kernel_rfl) ?_ ?_)))))))
    · intro h53
      replace h53 : (ibF (List.drop ((a).toNat) s) 10) < 0 := by omega
      refine L_nil (thenQ_normal (W_true (by kernel_rfl) (W_seq (W_region (L_mv (L_mv (L_mv (L_slen 9 s rfl Tryd.underlying9 (by kernel_rfl) (L_mv (L_slen 9 s rfl Tryd.underlying9 (by kernel_rfl) (L_run (Value.agg #[(.int .i64 a), (.int .i64 (((s).length : Nat) : Int)), (.int .i64 (((s).length : Nat) : Int))]) (by kernel_rfl) (by kernel_rfl) (L_app el132 w.heap.size v_3 acc (a, (((s).length : Nat) : Int), (((s).length : Nat) : Int)) hs r_3 (by omega) (by kernel_rfl) rfl rfl (by kernel_rfl) rfl (by kernel_rfl) (by kernel_rfl) ?_))))))))))))
      intro v54 w55 hr56 hg57 how58
      replace hb := hb.grown hg57 hs (fun k hk => (World.ownsRow.lt r_3 k hk).1)
      replace hs := Nat.le_trans hs (hg57.size)
      replace r_3 := hr56
      refine L_as (L_nil (thenQ_normal (W_ret (thenQ_ret (blkQ_ret (thenQ_ret (blkQ_ret ?_)))))))
      refine end_ret [.tmp 2] [v54] rfl hds ⟨by kernel_rfl, trivial⟩ ?_
      have e51 : (acc ++ [(a, (((s).length : Nat) : Int), (((s).length : Nat) : Int))]) = pcsI s := by exact pcsZ_end i1 i2 (by omega) i3
      exact ⟨v54, rfl, r_3.cast e51, hb⟩
    · intro h59
      replace h59 : 0 ≤ (ibF (List.drop ((a).toNat) s) 10) := by omega
      refine L_nil (thenQ_normal (W_false (by kernel_rfl) (W_skip (thenQ_normal (W_seq (W_region (L_mv (L_mv (L_mv (L_arith a (ibF (List.drop ((a).toNat) s) 10) (a + (ibF (List.drop ((a).toNat) s) 10)) rfl (by kernel_rfl) (by kernel_rfl) (wrap_i64 _ (by simp only [arithZ]; omega) (by simp only [arithZ]; omega)) (L_mv (L_mv (L_arith a (ibF (List.drop ((a).toNat) s) 10) (a + (ibF (List.drop ((a).toNat) s) 10)) rfl (by kernel_rfl) (by kernel_rfl) (wrap_i64 _ (by simp only [arithZ]; omega) (by simp only [arithZ]; omega)) (L_arith (a + (ibF (List.drop ((a).toNat) s) 10)) 1 ((a + (ibF (List.drop ((a).toNat) s) 10)) + 1) rfl (by kernel_rfl) (by kernel_rfl) (wrap_i64 _ (by simp only [arithZ]; omega) (by simp only [arithZ]; omega)) (L_run (Value.agg #[(.int .i64 a), (.int .i64 (a + (ibF (List.drop ((a).toNat) s) 10))), (.int .i64 ((a + (ibF (List.drop ((a).toNat) s) 10)) + 1))]) (by kernel_rfl) (by kernel_rfl) (L_new (fun b => .pointer (some ⟨b, 0, none⟩)) (.cells [(.int .i64 0), (.int .i64 0), (.int .i64 0)].toArray 135 (0, 0)) (by kernel_rfl) (by kernel_rfl) ?_))))))))))))))))
      intro b60 w61 hN62
      have g_x6 : w.heap.size ≤ b60 := by rw [hN62.num]; exact hs
      have nb_o_x6_r_3 := r_3.new_ne hN62
      replace hb := hb.trans (hN62.below.mono hs)
      replace hs := Nat.le_trans hs (hN62.below.size)
      replace r_3 := r_3.below hN62.below
      have o_x6 := hN62.here
      refine L_storeA b60 0 [(.int .i64 a), (.int .i64 (a + (ibF (List.drop ((a).toNat) s) 10))), (.int .i64 ((a + (ibF (List.drop ((a).toNat) s) 10)) + 1))] [(.int .i64 0), (.int .i64 0), (.int .i64 0)] [(.int .i64 a), (.int .i64 (a + (ibF (List.drop ((a).toNat) s) 10))), (.int .i64 ((a + (ibF (List.drop ((a).toNat) s) 10)) + 1))] 135 (by kernel_rfl) (by kernel_rfl) rfl (by kernel_rfl) o_x6 (by kernel_rfl) rfl ?_
      intro w63 hW64
      replace hb := hb.trans (hW64.below g_x6)
      replace hs := Nat.le_trans hs (Nat.le_of_eq hW64.size.symm)
      have n_r_3 := r_3.wrote hW64 nb_o_x6_r_3
      replace r_3 := n_r_3; clear n_r_3
      replace o_x6 := hW64.here
      refine L_nil (thenQ_normal (W_seq (W_seq (W_region (L_mv (L_cmp .i64 (ibF (List.drop ((a).toNat) s) 10) 0 (0 < (ibF (List.drop ((a).toNat) s) 10)) rfl (cmp_gt (ibF (List.drop ((a).toNat) s) 10) 0) (by kernel_rfl) (by kernel_rfl) ?_ ?_))))))
      · intro h65
        replace h65 : 0 < (ibF (List.drop ((a).toNat) s) 10) := by omega
        refine L_mv (L_want (by kernel_rfl) (L_mv (L_want (by kernel_rfl) (L_run (.pointer (some ⟨b60, 1, none⟩)) (by kernel_rfl) (by kernel_rfl) (L_want (by kernel_rfl) (L_load b60 1 (.int .i64 (a + (ibF (List.drop ((a).toNat) s) 10))) (by kernel_rfl) (by kernel_rfl) (cell_obj o_x6 rfl) (L_want (by kernel_rfl) (L_arith (a + (ibF (List.drop ((a).toNat) s) 10)) 1 ((a + (ibF (List.drop ((a).toNat) s) 10)) - 1) rfl (by kernel_rfl) (by kernel_rfl) (wrap_i64 _ (by simp only [arithZ]; omega) (by simp only [arithZ]; omega)) (L_want (by kernel_rfl) ?_)))))))))
        have hz := get_some s (((a + (ibF (List.drop ((a).toNat) s) 10)) - 1).toNat) (by first | omega | (simp only [List.length_drop]; omega)); obtain ⟨c66, hc67⟩ := hz
        have := c66.toNat_lt
        refine L_sindexZ (k := .i64) s ((a + (ibF (List.drop ((a).toNat) s) 10)) - 1) (((a + (ibF (List.drop ((a).toNat) s) 10)) - 1).toNat) c66 (by omega) Tryd.underlying9 hc67 (by kernel_rfl) (by kernel_rfl) (L_want (by kernel_rfl) (L_cmp .u8 ((c66.toNat : Nat) : Int) ((13 : Nat) : Int) (c66.toNat = 13) rfl (cmpN_eq c66.toNat 13) (by kernel_rfl) (by kernel_rfl) ?_ ?_))
        · intro h68
          replace h68 : c66.toNat = 13 := by omega
          refine L_pickT (by kernel_rfl) (L_nil (thenQ_normal (W_true (by kernel_rfl) (W_region (L_run (.pointer (some ⟨b60, 1, none⟩)) (by kernel_rfl) (by kernel_rfl) (L_load b60 1 (.int .i64 (a + (ibF (List.drop ((a).toNat) s) 10))) (by kernel_rfl) (by kernel_rfl) (cell_obj o_x6 rfl) (L_arith (a + (ibF (List.drop ((a).toNat) s) 10)) 1 ((a + (ibF (List.drop ((a).toNat) s) 10)) - 1) rfl (by kernel_rfl) (by kernel_rfl) (wrap_i64 _ (by simp only [arithZ]; omega) (by simp only [arithZ]; omega)) (L_run (.pointer (some ⟨b60, 1, none⟩)) (by kernel_rfl) (by kernel_rfl) (L_store b60 1 (.int .i64 ((a + (ibF (List.drop ((a).toNat) s) 10)) - 1)) [(.int .i64 a), (.int .i64 (a + (ibF (List.drop ((a).toNat) s) 10))), (.int .i64 ((a + (ibF (List.drop ((a).toNat) s) 10)) + 1))] [(.int .i64 a), (.int .i64 ((a + (ibF (List.drop ((a).toNat) s) 10)) - 1)), (.int .i64 ((a + (ibF (List.drop ((a).toNat) s) 10)) + 1))] 135 (by kernel_rfl) (by kernel_rfl) rfl (by kernel_rfl) o_x6 (by simp) rfl ?_)))))))))
          intro w69 hW70
          replace hb := hb.trans (hW70.below g_x6)
          replace hs := Nat.le_trans hs (Nat.le_of_eq hW70.size.symm)
          have n_r_3 := r_3.wrote hW70 nb_o_x6_r_3
          replace r_3 := n_r_3; clear n_r_3
          replace o_x6 := hW70.here
          refine L_nil (thenQ_normal (W_seq (W_region (L_mv (L_loadA b60 0 [(.int .i64 a), (.int .i64 ((a + (ibF (List.drop ((a).toNat) s) 10)) - 1)), (.int .i64 ((a + (ibF (List.drop ((a).toNat) s) 10)) + 1))] (by kernel_rfl) (by kernel_rfl) (by kernel_rfl) (cells_at o_x6 0 (by kernel_rfl)) (L_app el132 w.heap.size v_3 acc (a, ((a + (ibF (List.drop ((a).toNat) s) 10)) - 1), ((a + (ibF (List.drop ((a).toNat) s) 10)) + 1)) hs r_3 (by omega) (by kernel_rfl) rfl rfl (by kernel_rfl) rfl (by kernel_rfl) (by kernel_rfl) ?_))))))
          intro v71 w72 hr73 hg74 how75
          have nc_o_x6 := ownb_app how75 nb_o_x6_r_3 (obj_lt o_x6)
          replace hb := hb.grown hg74 hs (fun k hk => (World.ownsRow.lt r_3 k hk).1)
          replace hs := Nat.le_trans hs (hg74.size)
          have n_o_x6 := obj_grown o_x6 hg74 nb_o_x6_r_3
          replace o_x6 := n_o_x6; clear n_o_x6
          have nb_o_x6_r_3 := nc_o_x6
          replace r_3 := hr73
          refine L_as (L_nil (thenQ_normal (W_region (L_run (.pointer (some ⟨b60, 2, none⟩)) (by kernel_rfl) (by kernel_rfl) (L_load b60 2 (.int .i64 ((a + (ibF (List.drop ((a).toNat) s) 10)) + 1)) (by kernel_rfl) (by kernel_rfl) (cell_obj o_x6 rfl) (L_as (L_nil (blkQ_normal ?_))))))))
          refine thenQ_normal ⟨_, ?_, ((a + (ibF (List.drop ((a).toNat) s) 10)) + 1), (acc ++ [(a, ((a + (ibF (List.drop ((a).toNat) s) 10)) - 1), ((a + (ibF (List.drop ((a).toNat) s) 10)) + 1))]), v71, rfl, hds, by kernel_rfl, by kernel_rfl, by kernel_rfl, r_3, hb, hs, ?_, ?_, ?_, ?_⟩
          · omega
          · omega
          · omega
          · simp only [List.length_append, List.length_cons, List.length_nil]; omega
          · first | exact pcsZ_step i1 rfl (by omega) (.inl ⟨rfl, by omega, _, by assumption, by assumption⟩) i3 | exact pcsZ_step i1 rfl (by omega) (.inr ⟨rfl, .inl (by omega)⟩) i3 | exact pcsZ_step i1 rfl (by omega) (.inr ⟨rfl, .inr ⟨_, by assumption, by assumption⟩⟩) i3
        · intro h76
          replace h76 : c66.toNat ≠ 13 := by omega
          refine L_pickT (by kernel_rfl) (L_nil (thenQ_normal (W_false (by kernel_rfl) (W_skip (thenQ_normal (W_seq (W_region (L_mv (L_loadA b60 0 [(.int .i64 a), (.int .i64 (a + (ibF (List.drop ((a).toNat) s) 10))), (.int .i64 ((a + (ibF (List.drop ((a).toNat) s) 10)) + 1))] (by kernel_rfl) (by kernel_rfl) (by kernel_rfl) (cells_at o_x6 0 (by kernel_rfl)) (L_app el132 w.heap.size v_3 acc (a, (a + (ibF (List.drop ((a).toNat) s) 10)), ((a + (ibF (List.drop ((a).toNat) s) 10)) + 1)) hs r_3 (by omega) (by kernel_rfl) rfl rfl (by kernel_rfl) rfl (by kernel_rfl) (by kernel_rfl) ?_))))))))))
          intro v77 w78 hr79 hg80 how81
          have nc_o_x6 := ownb_app how81 nb_o_x6_r_3 (obj_lt o_x6)
          replace hb := hb.grown hg80 hs (fun k hk => (World.ownsRow.lt r_3 k hk).1)
          replace hs := Nat.le_trans hs (hg80.size)
          have n_o_x6 := obj_grown o_x6 hg80 nb_o_x6_r_3
          replace o_x6 := n_o_x6; clear n_o_x6
          have nb_o_x6_r_3 := nc_o_x6
          replace r_3 := hr79
          refine L_as (L_nil (thenQ_normal (W_region (L_run (.pointer (some ⟨b60, 2, none⟩)) (by kernel_rfl) (by kernel_rfl) (L_load b60 2 (.int .i64 ((a + (ibF (List.drop ((a).toNat) s) 10)) + 1)) (by kernel_rfl) (by kernel_rfl) (cell_obj o_x6 rfl) (L_as (L_nil (blkQ_normal ?_))))))))
          refine thenQ_normal ⟨_, ?_, ((a + (ibF (List.drop ((a).toNat) s) 10)) + 1), (acc ++ [(a, (a + (ibF (List.drop ((a).toNat) s) 10)), ((a + (ibF (List.drop ((a).toNat) s) 10)) + 1))]), v77, rfl, hds, by kernel_rfl, by kernel_rfl, by kernel_rfl, r_3, hb, hs, ?_, ?_, ?_, ?_⟩
          · omega
          · omega
          · omega
          · simp only [List.length_append, List.length_cons, List.length_nil]; omega
          · first | exact pcsZ_step i1 rfl (by omega) (.inl ⟨rfl, by omega, _, by assumption, by assumption⟩) i3 | exact pcsZ_step i1 rfl (by omega) (.inr ⟨rfl, .inl (by omega)⟩) i3 | exact pcsZ_step i1 rfl (by omega) (.inr ⟨rfl, .inr ⟨_, by assumption, by assumption⟩⟩) i3
      · intro h82
        replace h82 : (ibF (List.drop ((a).toNat) s) 10) ≤ 0 := by omega
        refine L_mv (L_skip (by kernel_rfl) (L_skip (by kernel_rfl) (L_skip (by kernel_rfl) (L_skip (by kernel_rfl) (L_skip (by kernel_rfl) (L_skip (by kernel_rfl) (L_pickF (by kernel_rfl) (L_nil (thenQ_normal (W_false (by kernel_rfl) (W_skip (thenQ_normal (W_seq (W_region (L_mv (L_loadA b60 0 [(.int .i64 a), (.int .i64 (a + (ibF (List.drop ((a).toNat) s) 10))), (.int .i64 ((a + (ibF (List.drop ((a).toNat) s) 10)) + 1))] (by kernel_rfl) (by kernel_rfl) (by kernel_rfl) (cells_at o_x6 0 (by kernel_rfl)) (L_app el132 w.heap.size v_3 acc (a, (a + (ibF (List.drop ((a).toNat) s) 10)), ((a + (ibF (List.drop ((a).toNat) s) 10)) + 1)) hs r_3 (by omega) (by kernel_rfl) rfl rfl (by kernel_rfl) rfl (by kernel_rfl) (by kernel_rfl) ?_)))))))))))))))))
        intro v83 w84 hr85 hg86 how87
        have nc_o_x6 := ownb_app how87 nb_o_x6_r_3 (obj_lt o_x6)
        replace hb := hb.grown hg86 hs (fun k hk => (World.ownsRow.lt r_3 k hk).1)
        replace hs := Nat.le_trans hs (hg86.size)
        have n_o_x6 := obj_grown o_x6 hg86 nb_o_x6_r_3
        replace o_x6 := n_o_x6; clear n_o_x6
        have nb_o_x6_r_3 := nc_o_x6
        replace r_3 := hr85
        refine L_as (L_nil (thenQ_normal (W_region (L_run (.pointer (some ⟨b60, 2, none⟩)) (by kernel_rfl) (by kernel_rfl) (L_load b60 2 (.int .i64 ((a + (ibF (List.drop ((a).toNat) s) 10)) + 1)) (by kernel_rfl) (by kernel_rfl) (cell_obj o_x6 rfl) (L_as (L_nil (blkQ_normal ?_))))))))
        refine thenQ_normal ⟨_, ?_, ((a + (ibF (List.drop ((a).toNat) s) 10)) + 1), (acc ++ [(a, (a + (ibF (List.drop ((a).toNat) s) 10)), ((a + (ibF (List.drop ((a).toNat) s) 10)) + 1))]), v83, rfl, hds, by kernel_rfl, by kernel_rfl, by kernel_rfl, r_3, hb, hs, ?_, ?_, ?_, ?_⟩
        · omega
        · omega
        · omega
        · simp only [List.length_append, List.length_cons, List.length_nil]; omega
        · first | exact pcsZ_step i1 rfl (by omega) (.inl ⟨rfl, by omega, _, by assumption, by assumption⟩) i3 | exact pcsZ_step i1 rfl (by omega) (.inr ⟨rfl, .inl (by omega)⟩) i3 | exact pcsZ_step i1 rfl (by omega) (.inr ⟨rfl, .inr ⟨_, by assumption, by assumption⟩⟩) i3

set_option maxHeartbeats 4000000 in
set_option maxRecDepth 100000 in
theorem it_lines_Each_1 (b_s : Nat) (s : List UInt8) (hs : s.length ≤ 1073741824) :
    Iter (α := Int × List UInt8) Tryd.prog 67 [.pointer (some ⟨b_s, 0, none⟩)] (fun x => [.int .i64 x.1, S x.2]) (toldF s) (fun w => w.heap[b_s]? = some (.cells [(S s)].toArray 9 (0, 0))) := by
  intro l J Jx w hN h0 hJs hJxs hY
  refine enter (args := [(.func (.yield l) #[] #[]), (.pointer (some ⟨b_s, 0, none⟩))]) Tryd.func67 rfl (by kernel_rfl : _ = 30) (by kernel_rfl) ?_
  have hb := Below.refl w.heap.size w
  have hs : w.heap.size ≤ w.heap.size := Nat.le_refl _
  have o_caps := hN
  refine W_seq (W_region (L_load b_s 0 (S s) (by kernel_rfl) (by kernel_rfl) (cell_obj o_caps rfl) (L_call 68 [(S s)] (by kernel_rfl) (by kernel_rfl) (c_lines_pieces s _ (by first | omega | (simp only [List.length_drop, List.length_take]; omega))) ?_)))
  rintro q1 w2 ⟨_, rfl, r_q1, hB3⟩
  replace r_q1 := r_q1.base hs
  replace hb := hb.trans (hB3.mono hs)
  replace hs := Nat.le_trans hs (hB3.size)
  replace o_caps := obj_below o_caps hB3
  have := pcsI_len s
  refine L_len 132 135 (pcsI s).length q1 rfl Tryd.underlying132 (r_q1.rd).len (by kernel_rfl) (L_mv (L_nil (thenQ_normal (W_block ?_))))
  have hJ := h0 _ hb
  obtain ⟨K, hKe⟩ : ∃ K, K = w2.heap.size := ⟨_, rfl⟩
  rw [← hKe] at hJ
  have hK : K ≤ w2.heap.size := by omega
  have hK0 : w.heap.size ≤ K := by omega
  have ivr_r_q1 : ∀ g, Value.ownBlock q1 = some g → Iv w.heap.size K g := fun g hg => by have := World.ownsRow.lt r_q1 g hg; exact ⟨this.1, by omega⟩
  refine W_loop (fun m s0 w0 => ∃ (i : Nat) (pre : List (Int × List UInt8)), (m = (pcsI s).length - i) ∧ (s0.ds = []) ∧ (s0.f 0 = (.func (.yield l) #[] #[])) ∧ (s0.f 1 = (.pointer (some ⟨b_s, 0, none⟩))) ∧ (s0.f 6 = q1) ∧ (s0.f 7 = (.int .i64 (((pcsI s).length : Nat) : Int))) ∧ (s0.f 8 = (.int .i64 ((i : Nat) : Int))) ∧ (Row w0 w.heap.size 135 3 encPc q1 (pcsI s)) ∧ (w0.heap[b_s]? = some (.cells [(S s)].toArray 9 (0, 0))) ∧ (w.heap.size ≤ w0.heap.size) ∧ (K ≤ w0.heap.size) ∧ (J K pre w0) ∧ (i ≤ (pcsI s).length) ∧ (pre ++ toldL s i ((pcsI s).drop i) = toldF s)) _ ⟨0, [], rfl, by kernel_rfl, by kernel_rfl, by kernel_rfl, by kernel_rfl, by kernel_rfl, by kernel_rfl, r_q1, o_caps, hs, hK, hJ, by omega, rfl⟩ ?_
  rintro m5 s6 w7 ⟨i, pre, hm, hds, f_0, f_1, f_6, f_7, f_8, r_q1, o_caps, hs, hK, hJ, i1, i3⟩
  refine W_set 0 _ f_0 (W_set 1 _ f_1 (W_set 6 _ f_6 (W_set 7 _ f_7 (W_set 8 _ f_8 ?_))))
  clear f_0 f_1 f_6 f_7 f_8
  refine W_seq (W_region (L_cmp .i64 ((i : Nat) : Int) (((pcsI s).length : Nat) : Int) (i < (pcsI s).length) rfl (cmpN_lt i ((pcsI s).length)) (by kernel_rfl) (by kernel_rfl) ?_ ?_))
  · intro h8
    replace h8 : i < (pcsI s).length := by omega
    refine L_nil (thenQ_normal (W_seq (W_true (by kernel_rfl) (W_skip (thenQ_normal (W_seq (W_block (W_seq (W_region (L_mv ?_))))))))))
    have hz := get_some (pcsI s) i (by first | omega | (simp only [List.length_drop, List.length_take]; omega)); obtain ⟨x9, hx10⟩ := hz
    have hz := (r_q1.rd).at (k := 3) (fun _ => rfl) hx10
    obtain ⟨g11, off12, hl13, hc14⟩ := hz
    have hpo := pcsI_ok hx10
    obtain ⟨po1, po2, po3, po4⟩ := hpo
    refine L_ixaddr (k := .i64) q1 i _ g11 off12 el132 hl13 (by first | omega | (simp only [List.length_drop, List.length_take]; omega)) (by kernel_rfl) (by kernel_rfl) (L_loadA g11 (off12 + i * 3) [(.int .i64 x9.1), (.int .i64 x9.2.1), (.int .i64 x9.2.2)] (by kernel_rfl) (by kernel_rfl) (by kernel_rfl) hc14 (L_new (fun b => .pointer (some ⟨b, 0, none⟩)) (.cells [(.int .i64 0), (.int .i64 0), (.int .i64 0)].toArray 135 (0, 0)) (by kernel_rfl) (by kernel_rfl) ?_))
    intro b15 w16 hN17
    have ne_caps_x4 : b_s ≠ b15 := by have := (obj_lt o_caps); have := hN17.num; omega
    have ne_x4_caps := ne_caps_x4.symm
    have g_x4 : w.heap.size ≤ b15 := by rw [hN17.num]; exact hs
    have hCJ := Ch.refl (Iv w.heap.size K) w7
    have jv_x4 : (World.heap w7).size ≤ b15 ∨ Iv w.heap.size K b15 := .inl (by rw [hN17.num]; exact hCJ.size)
    have nb_o_x4_r_q1 := r_q1.new_ne hN17
    replace hCJ := hCJ.trans2 (Ch.of_below hN17.below) (fun _ h => h.elim)
    replace hK := Nat.le_trans hK (hN17.below.size)
    replace hs := Nat.le_trans hs (hN17.below.size)
    replace o_caps := obj_below o_caps hN17.below
    replace r_q1 := r_q1.below hN17.below
    have o_x4 := hN17.here
    refine L_as (L_storeA b15 0 [(.int .i64 x9.1), (.int .i64 x9.2.1), (.int .i64 x9.2.2)] [(.int .i64 0), (.int .i64 0), (.int .i64 0)] [(.int .i64 x9.1), (.int .i64 x9.2.1), (.int .i64 x9.2.2)] 135 (by kernel_rfl) (by kernel_rfl) rfl (by kernel_rfl) o_x4 (by kernel_rfl) rfl ?_)
    intro w18 hW19
    replace hCJ := hCJ.trans2 (Ch.of_wrote hW19) (fun k e => e ▸ jv_x4)
    replace hK := Nat.le_trans hK (Nat.le_of_eq hW19.size.symm)
    replace hs := Nat.le_trans hs (Nat.le_of_eq hW19.size.symm)
    have n_o_caps := obj_wrote o_caps hW19 (obj_ne o_caps o_x4 (by simp))
    have n_r_q1 := r_q1.wrote hW19 nb_o_x4_r_q1
    replace o_caps := n_o_caps; clear n_o_caps
    replace r_q1 := n_r_q1; clear n_r_q1
    replace o_x4 := hW19.here
    refine L_nil (thenQ_normal (W_seq (W_seq (W_region (L_run (.pointer (some ⟨b15, 0, none⟩)) (by kernel_rfl) (by kernel_rfl) (L_load b15 0 (.int .i64 x9.1) (by kernel_rfl) (by kernel_rfl) (cell_obj o_x4 rfl) (L_run (.pointer (some ⟨b15, 2, none⟩)) (by kernel_rfl) (by kernel_rfl) (L_load b15 2 (.int .i64 x9.2.2) (by kernel_rfl) (by kernel_rfl) (cell_obj o_x4 rfl) (L_cmp .i64 x9.1 x9.2.2 (x9.1 = x9.2.2) rfl (cmp_eq x9.1 x9.2.2) (by kernel_rfl) (by kernel_rfl) ?_ ?_)))))))))
    · intro h20
      replace h20 : x9.1 = x9.2.2 := by omega
      refine L_nil (thenQ_normal (W_true (by kernel_rfl) (W_ret (thenQ_ret (blkQ_ret (thenQ_ret (thenQ_ret (blkQ_ret ?_))))))))
      refine end_ret [] [] rfl hds trivial ?_
      replace hJ := hJs _ _ _ _ hJ hCJ
      clear hCJ
      have epre : pre = toldF s := by first | exact told_stop (by assumption) (by assumption) i3 | exact told_end (by omega) i3
      rw [epre] at hJ
      exact ⟨hs, Or.inl ⟨K, hJ⟩⟩
    · intro h21
      replace h21 : x9.1 ≠ x9.2.2 := by omega
      refine L_nil (thenQ_normal (W_false (by kernel_rfl) (W_skip (thenQ_normal (W_seq (W_region (L_mv (L_mv (L_addN i 1 (by omega) (by kernel_rfl) (by kernel_rfl) (L_load b_s 0 (S s) (by kernel_rfl) (by kernel_rfl) (cell_obj o_caps rfl) (L_run (.pointer (some ⟨b15, 0, none⟩)) (by kernel_rfl) (by kernel_rfl) (L_load b15 0 (.int .i64 x9.1) (by kernel_rfl) (by kernel_rfl) (cell_obj o_x4 rfl) (L_run (.pointer (some ⟨b15, 1, none⟩)) (by kernel_rfl) (by kernel_rfl) (L_load b15 1 (.int .i64 x9.2.1) (by kernel_rfl) (by kernel_rfl) (cell_obj o_x4 rfl) (L_sslice s ((x9.1).toNat) ((x9.2.1).toNat) Tryd.underlying9 (by kernel_rfl) (toNat_val x9.1 .i64 (by kernel_rfl) (by omega)) (toNat_val x9.2.1 .i64 (by kernel_rfl) (by omega)) (by first | omega | (simp only [List.length_drop, List.length_take]; omega)) (by first | omega | (simp only [List.length_drop, List.length_take]; omega)) ?_)))))))))))))))
      replace hJ := hJs _ _ _ _ hJ hCJ
      clear hCJ
      have hpre : pre ++ [((((i + 1) : Nat) : Int), (List.drop ((x9.1).toNat) (List.take ((x9.2.1).toNat) s)))] <+: toldF s := by exact pre_of3 (told_step (by assumption) (by assumption) i3)
      refine L_yield l [(.int .i64 (((i + 1) : Nat) : Int)), (S (List.drop ((x9.1).toNat) (List.take ((x9.2.1).toNat) s)))] (by kernel_rfl) (by kernel_rfl) (hY K pre ((((i + 1) : Nat) : Int), (List.drop ((x9.1).toNat) (List.take ((x9.2.1).toNat) s))) _ hJ o_caps hK0 hK hpre) ?_
      rintro e w22 (⟨rfl, hJ', hk, hN'⟩ | ⟨rfl, hJx, hk⟩)
      · refine ⟨true, rfl, ?_⟩
        replace r_q1 := r_q1.kp hk ivr_r_q1
        replace hs := Nat.le_trans hs hk.size
        replace hK := Nat.le_trans hK hk.size
        replace hJ := hJ'
        replace o_caps := hN'
        refine L_not true (by kernel_rfl) (L_nil (thenQ_normal (W_false (by kernel_rfl) (W_skip (blkQ_normal (thenQ_normal (W_region (L_addN i 1 (by omega) (by kernel_rfl) (by kernel_rfl) (L_mv (L_nil ?_))))))))))
        refine thenQ_normal ⟨_, ?_, (i + 1), (pre ++ [((((i + 1) : Nat) : Int), (List.drop ((x9.1).toNat) (List.take ((x9.2.1).toNat) s)))]), rfl, hds, by kernel_rfl, by kernel_rfl, by kernel_rfl, by kernel_rfl, by kernel_rfl, r_q1, o_caps, hs, hK, hJ, ?_, ?_⟩
        · omega
        · omega
        · exact told_step (by assumption) (by assumption) i3
      · refine ⟨false, rfl, ?_⟩
        replace r_q1 := r_q1.kp hk ivr_r_q1
        replace hs := Nat.le_trans hs hk.size
        replace hK := Nat.le_trans hK hk.size
        refine L_not false (by kernel_rfl) (L_nil (thenQ_normal (W_true (by kernel_rfl) (W_ret (blkQ_ret (thenQ_ret (thenQ_ret (blkQ_ret ?_))))))))
        refine end_ret [] [] rfl hds trivial ?_
        exact ⟨hs, Or.inr ⟨K, _, _, hpre, hJx⟩⟩
  · intro h23
    replace h23 : (pcsI s).length ≤ i := by omega
    refine L_nil (thenQ_normal (W_seq (W_false (by kernel_rfl) (W_exit (thenQ_exit (thenQ_exit (blkQ_exit ?_)))))))
    refine end_normal [] [] rfl hds trivial ?_
    have epre : pre = toldF s := by first | exact told_stop (by assumption) (by assumption) i3 | exact told_end (by omega) i3
    rw [epre] at hJ
    exact ⟨hs, Or.inl ⟨K, hJ⟩⟩

set_option maxHeartbeats 4000000 in
set_option maxRecDepth 100000 in
theorem c_lines_Each (s : List UInt8) (w : World) :
    Calls Tryd.prog 58 #[(S s)] w (Ret fun v w' => ∃ (cb0 : Nat), v = (.func (.func 67) #[] #[(.pointer (some ⟨cb0, 0, none⟩))]) ∧ w'.heap[cb0]? = some (.cells [(S s)].toArray 9 (0, 0)) ∧ w.heap.size ≤ cb0 ∧ Below w.heap.size w w') := by
  refine enter (args := [(S s)]) Tryd.func58 rfl (by kernel_rfl : _ = 4) (by kernel_rfl) ?_
  have hb := Below.refl w.heap.size w
  have hs : w.heap.size ≤ w.heap.size := Nat.le_refl _
  refine W_seq (W_region (L_new (fun b => .pointer (some ⟨b, 0, none⟩)) (.cells [(S s)].toArray 9 (0, 0)) (by kernel_rfl) (by kernel_rfl) ?_))
  intro b1 w2 hN3
  have g_x1 : w.heap.size ≤ b1 := by rw [hN3.num]; exact hs
  replace hb := hb.trans (hN3.below.mono hs)
  replace hs := Nat.le_trans hs (hN3.below.size)
  have o_x1 := hN3.here
  refine L_as (L_nil (thenQ_normal (W_seq (W_region (L_run (.func (.func 67) #[] #[(.pointer (some ⟨b1, 0, none⟩))]) (by kernel_rfl) (by kernel_rfl) (L_as (L_nil (thenQ_normal (W_ret ?_)))))))))
  refine end_ret [.tmp 2] [(.func (.func 67) #[] #[(.pointer (some ⟨b1, 0, none⟩))])] rfl rfl ⟨by kernel_rfl, trivial⟩ ?_
  exact ⟨b1, rfl, o_x1, g_x1, hb⟩

end Go.Proofs.YtjdcmeoiommglaaDoor
