/- Walks, written by my program walk.py out of the specification mcor.py: each theorem says what one function returns and that it leaves memory as it was. -/
import Derived.Test.YtjdcmeoiommglaaGreatDoorPMir
import Derived.Test.YtjdcmeoiommglaaGreatDoorWllines
import Derived.Test.YtjdcmeoiommglaaGreatDoorWlscan
import Derived.Test.YtjdcmeoiommglaaGreatDoorWlread
import Derived.Test.YtjdcmeoiommglaaGreatDoorWlref
import Derived.Test.YtjdcmeoiommglaaGreatDoorFKab
import Derived.Test.YtjdcmeoiommglaaGreatDoorProg
import Derived.Tactics2
namespace Go.Proofs.YtjdcmeoiommglaaGreatDoor
open Go Go.RowKit Go.FK
set_option linter.unusedVariables false
set_option linter.unusedSimpArgs false


theorem el113 : Elem Tryz.prog 113 21 1 4 := ⟨Tryz.underlying113, by kernel_rfl, rfl⟩
theorem el75 : Elem Tryz.prog 75 5 1 1 := ⟨Tryz.underlying75, by kernel_rfl, rfl⟩
set_option maxHeartbeats 4000000 in
set_option maxRecDepth 100000 in
theorem c_utf_Encode (v_l : Value) (l : List (Int)) (w : World) (p_l : Rd w encI32 v_l l) :
    Calls Tryz.prog 25 #[v_l] w (Ret fun v w' => v = (S (encL l)) ∧ Below w.heap.size w w') := by
  refine enter (args := [v_l]) Tryz.func25 rfl (by kernel_rfl : _ = 5) (by kernel_rfl) ?_
  have hb := Below.refl w.heap.size w
  have hs : w.heap.size ≤ w.heap.size := Nat.le_refl _
  have in_p_l := p_l
  refine W_seq (W_region (L_as (L_nil (thenQ_normal (W_seq (W_region (L_mv (L_runesStr v_l l Tryz.underlying113 Tryz.underlying21 Tryz.underlying9 (by kernel_rfl) p_l (L_as (L_nil (thenQ_normal (W_ret ?_))))))))))))
  refine end_ret [.tmp 2] [(S (encL l))] rfl rfl ⟨by kernel_rfl, trivial⟩ ?_
  have e0 : (encL l) = encL l := by first | rfl | (simp_all; done) | omega
  exact ⟨congrArg S e0, hb⟩

set_option maxHeartbeats 4000000 in
set_option maxRecDepth 100000 in
theorem c_points_Hex (s : List UInt8) (w : World) (hs : s.length ≤ 1073741824) :
    Calls Tryz.prog 29 #[(S s)] w (Ret fun v w' => v = (.tuple #[(.int .i32 ((hexF s).1)), (.int .i64 ((hexF s).2))]) ∧ Below w.heap.size w w') := by
  refine enter (args := [(S s)]) Tryz.func29 rfl (by kernel_rfl : _ = 45) (by kernel_rfl) ?_
  have hb := Below.refl w.heap.size w
  have hs : w.heap.size ≤ w.heap.size := Nat.le_refl _
  refine W_seq (W_region (L_as (L_as (L_nil (thenQ_normal (W_seq (W_seq (W_region (L_mv (L_slen 9 s rfl Tryz.underlying9 (by kernel_rfl) (L_cmp .i64 (((s).length : Nat) : Int) ((4 : Nat) : Int) ((s).length < 4) rfl (cmpN_lt ((s).length) 4) (by kernel_rfl) (by kernel_rfl) ?_ ?_)))))))))))
  · intro h1
    replace h1 : (s).length < 4 := by omega
    refine L_mv (L_skip (by kernel_rfl) (L_skip (by kernel_rfl) (L_skip (by kernel_rfl) (L_pickT (by kernel_rfl) (L_mv (L_skip (by kernel_rfl) (L_skip (by kernel_rfl) (L_skip (by kernel_rfl) (L_skip (by kernel_rfl) (L_skip (by kernel_rfl) (L_skip (by kernel_rfl) (L_skip (by kernel_rfl) (L_skip (by kernel_rfl) (L_pickT (by kernel_rfl) (L_nil (thenQ_normal (W_true (by kernel_rfl) (W_seq (W_region (L_as (L_as (L_nil (thenQ_normal (W_ret (thenQ_ret ?_)))))))))))))))))))))))))
    refine end_ret [.tmp 2, .tmp 3] [(.int .i32 0), (.int .i64 40)] rfl rfl ⟨by kernel_rfl, by kernel_rfl, trivial⟩ ?_
    have hE : ((0 : Int) = (hexF s).1) ∧ ((40 : Int) = (hexF s).2) := ⟨(by first | (exfalso; omega) | (rw [hexF_len (by omega)]; done) | (rw [hexF_zero (by omega) (by assumption) (by omega)]; done) | (rw [hexF_bad i3 (by assumption) (by omega)]; done) | (rw [hexF_big (hexV_end i3 (by omega)) (by omega)]; done) | (rw [hexF_ok (hexV_end i3 (by omega)) (by omega) (by omega) (by omega) (.inl (by omega))]; done) | (rw [hexF_ok (hexV_end i3 (by omega)) (by omega) (by omega) (by omega) (.inr ⟨_, by assumption, by omega⟩)]; done)), (by first | (exfalso; omega) | (rw [hexF_len (by omega)]; done) | (rw [hexF_zero (by omega) (by assumption) (by omega)]; done) | (rw [hexF_bad i3 (by assumption) (by omega)]; done) | (rw [hexF_big (hexV_end i3 (by omega)) (by omega)]; done) | (rw [hexF_ok (hexV_end i3 (by omega)) (by omega) (by omega) (by omega) (.inl (by omega))]; done) | (rw [hexF_ok (hexV_end i3 (by omega)) (by omega) (by omega) (by omega) (.inr ⟨_, by assumption, by omega⟩)]; done))⟩
    exact ⟨tup2 (congrArg (Value.int .i32) hE.1) (congrArg (Value.int .i64) hE.2), hb⟩
  · intro h2
    replace h2 : 4 ≤ (s).length := by omega
    refine L_mv (L_want (by kernel_rfl) (L_mv (L_want (by kernel_rfl) (L_slen 9 s rfl Tryz.underlying9 (by kernel_rfl) (L_want (by kernel_rfl) (L_cmp .i64 (((s).length : Nat) : Int) ((6 : Nat) : Int) (6 < (s).length) rfl (cmpN_gt ((s).length) 6) (by kernel_rfl) (by kernel_rfl) ?_ ?_))))))
    · intro h3
      replace h3 : 6 < (s).length := by omega
      refine L_pickF (by kernel_rfl) (L_mv (L_skip (by kernel_rfl) (L_skip (by kernel_rfl) (L_skip (by kernel_rfl) (L_skip (by kernel_rfl) (L_skip (by kernel_rfl) (L_skip (by kernel_rfl) (L_skip (by kernel_rfl) (L_skip (by kernel_rfl) (L_pickT (by kernel_rfl) (L_nil (thenQ_normal (W_true (by kernel_rfl) (W_seq (W_region (L_as (L_as (L_nil (thenQ_normal (W_ret (thenQ_ret ?_)))))))))))))))))))))
      refine end_ret [.tmp 2, .tmp 3] [(.int .i32 0), (.int .i64 40)] rfl rfl ⟨by kernel_rfl, by kernel_rfl, trivial⟩ ?_
      have hE : ((0 : Int) = (hexF s).1) ∧ ((40 : Int) = (hexF s).2) := ⟨(by first | (exfalso; omega) | (rw [hexF_len (by omega)]; done) | (rw [hexF_zero (by omega) (by assumption) (by omega)]; done) | (rw [hexF_bad i3 (by assumption) (by omega)]; done) | (rw [hexF_big (hexV_end i3 (by omega)) (by omega)]; done) | (rw [hexF_ok (hexV_end i3 (by omega)) (by omega) (by omega) (by omega) (.inl (by omega))]; done) | (rw [hexF_ok (hexV_end i3 (by omega)) (by omega) (by omega) (by omega) (.inr ⟨_, by assumption, by omega⟩)]; done)), (by first | (exfalso; omega) | (rw [hexF_len (by omega)]; done) | (rw [hexF_zero (by omega) (by assumption) (by omega)]; done) | (rw [hexF_bad i3 (by assumption) (by omega)]; done) | (rw [hexF_big (hexV_end i3 (by omega)) (by omega)]; done) | (rw [hexF_ok (hexV_end i3 (by omega)) (by omega) (by omega) (by omega) (.inl (by omega))]; done) | (rw [hexF_ok (hexV_end i3 (by omega)) (by omega) (by omega) (by omega) (.inr ⟨_, by assumption, by omega⟩)]; done))⟩
      exact ⟨tup2 (congrArg (Value.int .i32) hE.1) (congrArg (Value.int .i64) hE.2), hb⟩
    · intro h4
      replace h4 : (s).length ≤ 6 := by omega
      refine L_pickF (by kernel_rfl) (L_mv (L_want (by kernel_rfl) (L_mv (L_want (by kernel_rfl) (L_slen 9 s rfl Tryz.underlying9 (by kernel_rfl) (L_want (by kernel_rfl) (L_cmp .i64 (((s).length : Nat) : Int) ((4 : Nat) : Int) (4 < (s).length) rfl (cmpN_gt ((s).length) 4) (by kernel_rfl) (by kernel_rfl) ?_ ?_)))))))
      · intro h5
        replace h5 : 4 < (s).length := by omega
        refine L_want (by kernel_rfl) (L_mv (L_want (by kernel_rfl) (L_mv (L_want (by kernel_rfl) ?_))))
        have hz := get_some s 0 (by omega); obtain ⟨c6, hc7⟩ := hz
        have := c6.toNat_lt
        have hdr := digitV_range c6.toNat
        have hib := ibF_tab c6
        refine L_sindex (k := .i64) s 0 c6 Tryz.underlying9 hc7 (by kernel_rfl) (by kernel_rfl) (L_want (by kernel_rfl) (L_cmp .u8 ((c6.toNat : Nat) : Int) ((48 : Nat) : Int) (c6.toNat = 48) rfl (cmpN_eq c6.toNat 48) (by kernel_rfl) (by kernel_rfl) ?_ ?_))
        · intro h8
          replace h8 : c6.toNat = 48 := by omega
          refine L_want (by kernel_rfl) (L_pickT (by kernel_rfl) (L_pickF (by kernel_rfl) (L_nil (thenQ_normal (W_true (by kernel_rfl) (W_seq (W_region (L_as (L_as (L_nil (thenQ_normal (W_ret (thenQ_ret ?_)))))))))))))
          refine end_ret [.tmp 2, .tmp 3] [(.int .i32 0), (.int .i64 40)] rfl rfl ⟨by kernel_rfl, by kernel_rfl, trivial⟩ ?_
          have hE : ((0 : Int) = (hexF s).1) ∧ ((40 : Int) = (hexF s).2) := ⟨(by first | (exfalso; omega) | (rw [hexF_len (by omega)]; done) | (rw [hexF_zero (by omega) (by assumption) (by omega)]; done) | (rw [hexF_bad i3 (by assumption) (by omega)]; done) | (rw [hexF_big (hexV_end i3 (by omega)) (by omega)]; done) | (rw [hexF_ok (hexV_end i3 (by omega)) (by omega) (by omega) (by omega) (.inl (by omega))]; done) | (rw [hexF_ok (hexV_end i3 (by omega)) (by omega) (by omega) (by omega) (.inr ⟨_, by assumption, by omega⟩)]; done)), (by first | (exfalso; omega) | (rw [hexF_len (by omega)]; done) | (rw [hexF_zero (by omega) (by assumption) (by omega)]; done) | (rw [hexF_bad i3 (by assumption) (by omega)]; done) | (rw [hexF_big (hexV_end i3 (by omega)) (by omega)]; done) | (rw [hexF_ok (hexV_end i3 (by omega)) (by omega) (by omega) (by omega) (.inl (by omega))]; done) | (rw [hexF_ok (hexV_end i3 (by omega)) (by omega) (by omega) (by omega) (.inr ⟨_, by assumption, by omega⟩)]; done))⟩
          exact ⟨tup2 (congrArg (Value.int .i32) hE.1) (congrArg (Value.int .i64) hE.2), hb⟩
        · intro h9
          replace h9 : c6.toNat ≠ 48 := by omega
          refine L_want (by kernel_rfl) (L_pickT (by kernel_rfl) (L_pickF (by kernel_rfl) (L_nil (thenQ_normal (W_false (by kernel_rfl) (W_skip (thenQ_normal (W_seq (W_region (L_as (L_nil (thenQ_normal (W_seq (W_seq (W_region (L_mv (L_slen 9 s rfl Tryz.underlying9 (by kernel_rfl) (L_mv (L_nil (thenQ_normal (W_block ?_)))))))))))))))))))))
          refine W_loop (fun m s0 w0 => ∃ (i : Nat) (n : Nat), (m = s.length - i) ∧ (s0.ds = []) ∧ (s0.f 0 = (S s)) ∧ (s0.f 26 = (.int .i64 (((s).length : Nat) : Int))) ∧ (s0.f 4 = (.int .i32 ((n : Nat) : Int))) ∧ (s0.f 27 = (.int .i64 ((i : Nat) : Int))) ∧ (Below w.heap.size w w0) ∧ (w.heap.size ≤ w0.heap.size) ∧ (i ≤ s.length) ∧ (n < 16 ^ i) ∧ (hexV (s.drop i) n = hexV s 0)) _ ⟨0, 0, rfl, by kernel_rfl, by kernel_rfl, by kernel_rfl, by kernel_rfl, by kernel_rfl, hb, hs, by omega, by decide, rfl⟩ ?_
          rintro m10 s11 w12 ⟨i, n, hm, hds, f_0, f_26, f_4, f_27, hb, hs, i1, i2, i3⟩
          refine W_set 0 _ f_0 (W_set 26 _ f_26 (W_set 4 _ f_4 (W_set 27 _ f_27 ?_)))
          clear f_0 f_26 f_4 f_27
          have hp5 : i ≤ 5 → n < 1048576 := pow16 i2
          have hp6 : i ≤ 6 → n < 16777216 := pow166 i2
          refine W_seq (W_region (L_cmp .i64 ((i : Nat) : Int) (((s).length : Nat) : Int) (i < (s).length) rfl (cmpN_lt i ((s).length)) (by kernel_rfl) (by kernel_rfl) ?_ ?_))
          · intro h13
            replace h13 : i < (s).length := by omega
            refine L_nil (thenQ_normal (W_seq (W_true (by kernel_rfl) (W_skip (thenQ_normal (W_seq (W_block (W_seq (W_region (L_mv (L_as (L_nil (thenQ_normal (W_seq (W_region (L_mv (L_mv ?_)))))))))))))))))
            have hz := get_some s i (by omega); obtain ⟨c14, hc15⟩ := hz
            have := c14.toNat_lt
            have hdr := digitV_range c14.toNat
            have hib := ibF_tab c14
            refine L_sindex (k := .i64) s i c14 Tryz.underlying9 hc15 (by kernel_rfl) (by kernel_rfl) (L_call 49 [(S ([48, 49, 50, 51, 52, 53, 54, 55, 56, 57, 65, 66, 67, 68, 69, 70] : List UInt8)), (.int .u8 ((c14.toNat : Nat) : Int))] (by kernel_rfl) (by kernel_rfl) (c_strings_IndexByte ([48, 49, 50, 51, 52, 53, 54, 55, 56, 57, 65, 66, 67, 68, 69, 70] : List UInt8) ((c14.toNat : Nat) : Int) _ ) ?_)
            rintro _ w16 ⟨rfl, hB17⟩
            replace hb := hb.trans (hB17.mono hs)
            replace hs := Nat.le_trans hs (hB17.size)
            have := ib_range ([48, 49, 50, 51, 52, 53, 54, 55, 56, 57, 65, 66, 67, 68, 69, 70] : List UInt8) ((c14.toNat : Nat) : Int)
            refine L_as (L_nil (thenQ_normal (W_seq (W_seq (W_region (L_mv (L_cmp .i64 (ibF ([48, 49, 50, 51, 52, 53, 54, 55, 56, 57, 65, 66, 67, 68, 69, 70] : List UInt8) ((c14.toNat : Nat) : Int)) 0 ((ibF ([48, 49, 50, 51, 52, 53, 54, 55, 56, 57, 65, 66, 67, 68, 69, 70] : List UInt8) ((c14.toNat : Nat) : Int)) < 0) rfl (cmp_lt (ibF ([48, 49, 50, 51, 52, 53, 54, 55, 56, 57, 65, 66, 67, 68, 69, 70] : List UInt8) ((c14.toNat : Nat) : Int)) 0) (by kernel_rfl) (by kernel_rfl) ?_ ?_)))))))
            · intro h19
              replace h19 : (ibF ([48, 49, 50, 51, 52, 53, 54, 55, 56, 57, 65, 66, 67, 68, 69, 70] : List UInt8) ((c14.toNat : Nat) : Int)) < 0 := by omega
              refine L_nil (thenQ_normal (W_true (by kernel_rfl) (W_seq (W_region (L_as (L_as (L_nil (thenQ_normal (W_ret (thenQ_ret (blkQ_ret (thenQ_ret (thenQ_ret (blkQ_ret (thenQ_ret ?_)))))))))))))))
              refine end_ret [.tmp 2, .tmp 3] [(.int .i32 0), (.int .i64 40)] rfl hds ⟨by kernel_rfl, by kernel_rfl, trivial⟩ ?_
              have hE : ((0 : Int) = (hexF s).1) ∧ ((40 : Int) = (hexF s).2) := ⟨(by first | (exfalso; omega) | (rw [hexF_len (by omega)]; done) | (rw [hexF_zero (by omega) (by assumption) (by omega)]; done) | (rw [hexF_bad i3 (by assumption) (by omega)]; done) | (rw [hexF_big (hexV_end i3 (by omega)) (by omega)]; done) | (rw [hexF_ok (hexV_end i3 (by omega)) (by omega) (by omega) (by omega) (.inl (by omega))]; done) | (rw [hexF_ok (hexV_end i3 (by omega)) (by omega) (by omega) (by omega) (.inr ⟨_, by assumption, by omega⟩)]; done)), (by first | (exfalso; omega) | (rw [hexF_len (by omega)]; done) | (rw [hexF_zero (by omega) (by assumption) (by omega)]; done) | (rw [hexF_bad i3 (by assumption) (by omega)]; done) | (rw [hexF_big (hexV_end i3 (by omega)) (by omega)]; done) | (rw [hexF_ok (hexV_end i3 (by omega)) (by omega) (by omega) (by omega) (.inl (by omega))]; done) | (rw [hexF_ok (hexV_end i3 (by omega)) (by omega) (by omega) (by omega) (.inr ⟨_, by assumption, by omega⟩)]; done))⟩
              exact ⟨tup2 (congrArg (Value.int .i32) hE.1) (congrArg (Value.int .i64) hE.2), hb⟩
            · intro h20
              replace h20 : 0 ≤ (ibF ([48, 49, 50, 51, 52, 53, 54, 55, 56, 57, 65, 66, 67, 68, 69, 70] : List UInt8) ((c14.toNat : Nat) : Int)) := by omega
              refine L_nil (thenQ_normal (W_false (by kernel_rfl) (W_skip (thenQ_normal (W_region (L_mv (L_shl (k := .i32) (yk := .u64) ((n : Nat) : Int) (((16 * n) : Nat) : Int) 4 16 rfl (by kernel_rfl) (by kernel_rfl) (by kernel_rfl) (by rw [wrap_i32 _ (by omega) (by omega)]; omega) (L_mv (L_conv (k := .i64) (ibF ([48, 49, 50, 51, 52, 53, 54, 55, 56, 57, 65, 66, 67, 68, 69, 70] : List UInt8) ((c14.toNat : Nat) : Int)) (ibF ([48, 49, 50, 51, 52, 53, 54, 55, 56, 57, 65, 66, 67, 68, 69, 70] : List UInt8) ((c14.toNat : Nat) : Int)) (by kernel_rfl) Tryz.underlying21 (by kernel_rfl) (wrap_i32 _ (by omega) (by omega)) (L_orD (((16 * n) : Nat) : Int) (ibF ([48, 49, 50, 51, 52, 53, 54, 55, 56, 57, 65, 66, 67, 68, 69, 70] : List UInt8) ((c14.toNat : Nat) : Int)) n ((ibF ([48, 49, 50, 51, 52, 53, 54, 55, 56, 57, 65, 66, 67, 68, 69, 70] : List UInt8) ((c14.toNat : Nat) : Int)).toNat) (by omega) (by omega) (by kernel_rfl) (by kernel_rfl) (L_as (L_nil (blkQ_normal (thenQ_normal (W_region (L_addN i 1 (by omega) (by kernel_rfl) (by kernel_rfl) (L_mv (L_nil ?_))))))))))))))))))
              refine thenQ_normal ⟨_, ?_, (i + 1), (16 * n + ((ibF ([48, 49, 50, 51, 52, 53, 54, 55, 56, 57, 65, 66, 67, 68, 69, 70] : List UInt8) ((c14.toNat : Nat) : Int)).toNat)), rfl, hds, by kernel_rfl, by kernel_rfl, by kernel_rfl, by kernel_rfl, hb, hs, ?_, ?_, ?_⟩
              · omega
              · omega
              · rw [hib]; exact pow16s i2 (by omega)
              · rw [hib]; exact hexV_step i3 (by assumption) (by omega)
          · intro h21
            replace h21 : (s).length ≤ i := by omega
            refine L_nil (thenQ_normal (W_seq (W_false (by kernel_rfl) (W_exit (thenQ_exit (thenQ_exit (blkQ_exit (thenQ_normal (W_seq (W_seq (W_region (L_mv (L_cmp .i32 ((n : Nat) : Int) ((1114111 : Nat) : Int) (1114111 < n) rfl (cmpN_gt n 1114111) (by kernel_rfl) (by kernel_rfl) ?_ ?_)))))))))))))
            · intro h22
              replace h22 : 1114111 < n := by omega
              refine L_nil (thenQ_normal (W_true (by kernel_rfl) (W_seq (W_region (L_as (L_as (L_nil (thenQ_normal (W_ret (thenQ_ret ?_))))))))))
              refine end_ret [.tmp 2, .tmp 3] [(.int .i32 0), (.int .i64 40)] rfl hds ⟨by kernel_rfl, by kernel_rfl, trivial⟩ ?_
              have hE : ((0 : Int) = (hexF s).1) ∧ ((40 : Int) = (hexF s).2) := ⟨(by first | (exfalso; omega) | (rw [hexF_len (by omega)]; done) | (rw [hexF_zero (by omega) (by assumption) (by omega)]; done) | (rw [hexF_bad i3 (by assumption) (by omega)]; done) | (rw [hexF_big (hexV_end i3 (by omega)) (by omega)]; done) | (rw [hexF_ok (hexV_end i3 (by omega)) (by omega) (by omega) (by omega) (.inl (by omega))]; done) | (rw [hexF_ok (hexV_end i3 (by omega)) (by omega) (by omega) (by omega) (.inr ⟨_, by assumption, by omega⟩)]; done)), (by first | (exfalso; omega) | (rw [hexF_len (by omega)]; done) | (rw [hexF_zero (by omega) (by assumption) (by omega)]; done) | (rw [hexF_bad i3 (by assumption) (by omega)]; done) | (rw [hexF_big (hexV_end i3 (by omega)) (by omega)]; done) | (rw [hexF_ok (hexV_end i3 (by omega)) (by omega) (by omega) (by omega) (.inl (by omega))]; done) | (rw [hexF_ok (hexV_end i3 (by omega)) (by omega) (by omega) (by omega) (.inr ⟨_, by assumption, by omega⟩)]; done))⟩
              exact ⟨tup2 (congrArg (Value.int .i32) hE.1) (congrArg (Value.int .i64) hE.2), hb⟩
            · intro h23
              replace h23 : n ≤ 1114111 := by omega
              refine L_nil (thenQ_normal (W_false (by kernel_rfl) (W_skip (thenQ_normal (W_seq (W_region (L_mv (L_as (L_as (L_nil (thenQ_normal (W_ret ?_))))))))))))
              refine end_ret [.tmp 2, .tmp 3] [(.int .i32 ((n : Nat) : Int)), (.int .i64 0)] rfl hds ⟨by kernel_rfl, by kernel_rfl, trivial⟩ ?_
              have hE : ((((n : Nat) : Int) : Int) = (hexF s).1) ∧ ((0 : Int) = (hexF s).2) := ⟨(by first | (exfalso; omega) | (rw [hexF_len (by omega)]; done) | (rw [hexF_zero (by omega) (by assumption) (by omega)]; done) | (rw [hexF_bad i3 (by assumption) (by omega)]; done) | (rw [hexF_big (hexV_end i3 (by omega)) (by omega)]; done) | (rw [hexF_ok (hexV_end i3 (by omega)) (by omega) (by omega) (by omega) (.inl (by omega))]; done) | (rw [hexF_ok (hexV_end i3 (by omega)) (by omega) (by omega) (by omega) (.inr ⟨_, by assumption, by omega⟩)]; done)), (by first | (exfalso; omega) | (rw [hexF_len (by omega)]; done) | (rw [hexF_zero (by omega) (by assumption) (by omega)]; done) | (rw [hexF_bad i3 (by assumption) (by omega)]; done) | (rw [hexF_big (hexV_end i3 (by omega)) (by omega)]; done) | (rw [hexF_ok (hexV_end i3 (by omega)) (by omega) (by omega) (by omega) (.inl (by omega))]; done) | (rw [hexF_ok (hexV_end i3 (by omega)) (by omega) (by omega) (by omega) (.inr ⟨_, by assumption, by omega⟩)]; done))⟩
              exact ⟨tup2 (congrArg (Value.int .i32) hE.1) (congrArg (Value.int .i64) hE.2), hb⟩
      · intro h24
        replace h24 : (s).length ≤ 4 := by omega
        refine L_want (by kernel_rfl) (L_mv (L_skip (by kernel_rfl) (L_skip (by kernel_rfl) (L_skip (by kernel_rfl) (L_want (by kernel_rfl) (L_pickF (by kernel_rfl) (L_pickF (by kernel_rfl) (L_nil (thenQ_normal (W_false (by kernel_rfl) (W_skip (thenQ_normal (W_seq (W_region (L_as (L_nil (thenQ_normal (W_seq (W_seq (W_region (L_mv (L_slen 9 s rfl Tryz.underlying9 (by kernel_rfl) (L_mv (L_nil (thenQ_normal (W_block ?_))))))))))))))))))))))))))
        refine W_loop (fun m s0 w0 => ∃ (i : Nat) (n : Nat), (m = s.length - i) ∧ (s0.ds = []) ∧ (s0.f 0 = (S s)) ∧ (s0.f 26 = (.int .i64 (((s).length : Nat) : Int))) ∧ (s0.f 4 = (.int .i32 ((n : Nat) : Int))) ∧ (s0.f 27 = (.int .i64 ((i : Nat) : Int))) ∧ (Below w.heap.size w w0) ∧ (w.heap.size ≤ w0.heap.size) ∧ (i ≤ s.length) ∧ (n < 16 ^ i) ∧ (hexV (s.drop i) n = hexV s 0)) _ ⟨0, 0, rfl, by kernel_rfl, by kernel_rfl, by kernel_rfl, by kernel_rfl, by kernel_rfl, hb, hs, by omega, by decide, rfl⟩ ?_
        rintro m25 s26 w27 ⟨i, n, hm, hds, f_0, f_26, f_4, f_27, hb, hs, i1, i2, i3⟩
        refine W_set 0 _ f_0 (W_set 26 _ f_26 (W_set 4 _ f_4 (W_set 27 _ f_27 ?_)))
        clear f_0 f_26 f_4 f_27
        have hp5 : i ≤ 5 → n < 1048576 := pow16 i2
        have hp6 : i ≤ 6 → n < 16777216 := pow166 i2
        refine W_seq (W_region (L_cmp .i64 ((i : Nat) : Int) (((s).length : Nat) : Int) (i < (s).length) rfl (cmpN_lt i ((s).length)) (by kernel_rfl) (by kernel_rfl) ?_ ?_))
        · intro h28
          replace h28 : i < (s).length := by omega
          refine L_nil (thenQ_normal (W_seq (W_true (by kernel_rfl) (W_skip (thenQ_normal (W_seq (W_block (W_seq (W_region (L_mv (L_as (L_nil (thenQ_normal (W_seq (W_region (L_mv (L_mv ?_)))))))))))))))))
          have hz := get_some s i (by omega); obtain ⟨c29, hc30⟩ := hz
          have := c29.toNat_lt
          have hdr := digitV_range c29.toNat
          have hib := ibF_tab c29
          refine L_sindex (k := .i64) s i c29 Tryz.underlying9 hc30 (by kernel_rfl) (by kernel_rfl) (L_call 49 [(S ([48, 49, 50, 51, 52, 53, 54, 55, 56, 57, 65, 66, 67, 68, 69, 70] : List UInt8)), (.int .u8 ((c29.toNat : Nat) : Int))] (by kernel_rfl) (by kernel_rfl) (c_strings_IndexByte ([48, 49, 50, 51, 52, 53, 54, 55, 56, 57, 65, 66, 67, 68, 69, 70] : List UInt8) ((c29.toNat : Nat) : Int) _ ) ?_)
          rintro _ w31 ⟨rfl, hB32⟩
          replace hb := hb.trans (hB32.mono hs)
          replace hs := Nat.le_trans hs (hB32.size)
          have := ib_range ([48, 49, 50, 51, 52, 53, 54, 55, 56, 57, 65, 66, 67, 68, 69, 70] : List UInt8) ((c29.toNat : Nat) : Int)
          refine L_as (L_nil (thenQ_normal (W_seq (W_seq (W_region (L_mv (L_cmp .i64 (ibF ([48, 49, 50, 51, 52, 53, 54, 55, 56, 57, 65, 66, 67, 68, 69, 70] : List UInt8) ((c29.toNat : Nat) : Int)) 0 ((ibF ([48, 49, 50, 51, 52, 53, 54, 55, 56, 57, 65, 66, 67, 68, 69, 70] : List UInt8) ((c29.toNat : Nat) : Int)) < 0) rfl (cmp_lt (ibF ([48, 49, 50, 51, 52, 53, 54, 55, 56, 57, 65, 66, 67, 68, 69, 70] : List UInt8) ((c29.toNat : Nat) : Int)) 0) (by kernel_rfl) (by kernel_rfl) ?_ ?_)))))))
          · intro h34
            replace h34 : (ibF ([48, 49, 50, 51, 52, 53, 54, 55, 56, 57, 65, 66, 67, 68, 69, 70] : List UInt8) ((c29.toNat : Nat) : Int)) < 0 := by omega
            refine L_nil (thenQ_normal (W_true (by kernel_rfl) (W_seq (W_region (L_as (L_as (L_nil (thenQ_normal (W_ret (thenQ_ret (blkQ_ret (thenQ_ret (thenQ_ret (blkQ_ret (thenQ_ret ?_)))))))))))))))
            refine end_ret [.tmp 2, .tmp 3] [(.int .i32 0), (.int .i64 40)] rfl hds ⟨by kernel_rfl, by kernel_rfl, trivial⟩ ?_
            have hE : ((0 : Int) = (hexF s).1) ∧ ((40 : Int) = (hexF s).2) := ⟨(by first | (exfalso; omega) | (rw [hexF_len (by omega)]; done) | (rw [hexF_zero (by omega) (by assumption) (by omega)]; done) | (rw [hexF_bad i3 (by assumption) (by omega)]; done) | (rw [hexF_big (hexV_end i3 (by omega)) (by omega)]; done) | (rw [hexF_ok (hexV_end i3 (by omega)) (by omega) (by omega) (by omega) (.inl (by omega))]; done) | (rw [hexF_ok (hexV_end i3 (by omega)) (by omega) (by omega) (by omega) (.inr ⟨_, by assumption, by omega⟩)]; done)), (by first | (exfalso; omega) | (rw [hexF_len (by omega)]; done) | (rw [hexF_zero (by omega) (by assumption) (by omega)]; done) | (rw [hexF_bad i3 (by assumption) (by omega)]; done) | (rw [hexF_big (hexV_end i3 (by omega)) (by omega)]; done) | (rw [hexF_ok (hexV_end i3 (by omega)) (by omega) (by omega) (by omega) (.inl (by omega))]; done) | (rw [hexF_ok (hexV_end i3 (by omega)) (by omega) (by omega) (by omega) (.inr ⟨_, by assumption, by omega⟩)]; done))⟩
            exact ⟨tup2 (congrArg (Value.int .i32) hE.1) (congrArg (Value.int .i64) hE.2), hb⟩
          · intro h35
            replace h35 : 0 ≤ (ibF ([48, 49, 50, 51, 52, 53, 54, 55, 56, 57, 65, 66, 67, 68, 69, 70] : List UInt8) ((c29.toNat : Nat) : Int)) := by omega
            refine L_nil (thenQ_normal (W_false (by kernel_rfl) (W_skip (thenQ_normal (W_region (L_mv (L_shl (k := .i32) (yk := .u64) ((n : Nat) : Int) (((16 * n) : Nat) : Int) 4 16 rfl (by kernel_rfl) (by kernel_rfl) (by kernel_rfl) (by rw [wrap_i32 _ (by omega) (by omega)]; omega) (L_mv (L_conv (k := .i64) (ibF ([48, 49, 50, 51, 52, 53, 54, 55, 56, 57, 65, 66, 67, 68, 69, 70] : List UInt8) ((c29.toNat : Nat) : Int)) (ibF ([48, 49, 50, 51, 52, 53, 54, 55, 56, 57, 65, 66, 67, 68, 69, 70] : List UInt8) ((c29.toNat : Nat) : Int)) (by kernel_rfl) Tryz.underlying21 (by kernel_rfl) (wrap_i32 _ (by omega) (by omega)) (L_orD (((16 * n) : Nat) : Int) (ibF ([48, 49, 50, 51, 52, 53, 54, 55, 56, 57, 65, 66, 67, 68, 69, 70] : List UInt8) ((c29.toNat : Nat) : Int)) n ((ibF ([48, 49, 50, 51, 52, 53, 54, 55, 56, 57, 65, 66, 67, 68, 69, 70] : List UInt8) ((c29.toNat : Nat) : Int)).toNat) (by omega) (by omega) (by kernel_rfl) (by kernel_rfl) (L_as (L_nil (blkQ_normal (thenQ_normal (W_region (L_addN i 1 (by omega) (by kernel_rfl) (by kernel_rfl) (L_mv (L_nil ?_))))))))))))))))))
            refine thenQ_normal ⟨_, ?_, (i + 1), (16 * n + ((ibF ([48, 49, 50, 51, 52, 53, 54, 55, 56, 57, 65, 66, 67, 68, 69, 70] : List UInt8) ((c29.toNat : Nat) : Int)).toNat)), rfl, hds, by kernel_rfl, by kernel_rfl, by kernel_rfl, by kernel_rfl, hb, hs, ?_, ?_, ?_⟩
            · omega
            · omega
            · rw [hib]; exact pow16s i2 (by omega)
            · rw [hib]; exact hexV_step i3 (by assumption) (by omega)
        · intro h36
          replace h36 : (s).length ≤ i := by omega
          refine L_nil (thenQ_normal (W_seq (W_false (by kernel_rfl) (W_exit (thenQ_exit (thenQ_exit (blkQ_exit (thenQ_normal (W_seq (W_seq (W_region (L_mv (L_cmp .i32 ((n : Nat) : Int) ((1114111 : Nat) : Int) (1114111 < n) rfl (cmpN_gt n 1114111) (by kernel_rfl) (by kernel_rfl) ?_ ?_)))))))))))))
          · intro h37
            replace h37 : 1114111 < n := by omega
            refine L_nil (thenQ_normal (W_true (by kernel_rfl) (W_seq (W_region (L_as (L_as (L_nil (thenQ_normal (W_ret (thenQ_ret ?_))))))))))
            refine end_ret [.tmp 2, .tmp 3] [(.int .i32 0), (.int .i64 40)] rfl hds ⟨by kernel_rfl, by kernel_rfl, trivial⟩ ?_
            have hE : ((0 : Int) = (hexF s).1) ∧ ((40 : Int) = (hexF s).2) := ⟨(by first | (exfalso; omega) | (rw [hexF_len (by omega)]; done) | (rw [hexF_zero (by omega) (by assumption) (by omega)]; done) | (rw [hexF_bad i3 (by assumption) (by omega)]; done) | (rw [hexF_big (hexV_end i3 (by omega)) (by omega)]; done) | (rw [hexF_ok (hexV_end i3 (by omega)) (by omega) (by omega) (by omega) (.inl (by omega))]; done) | (rw [hexF_ok (hexV_end i3 (by omega)) (by omega) (by omega) (by omega) (.inr ⟨_, by assumption, by omega⟩)]; done)), (by first | (exfalso; omega) | (rw [hexF_len (by omega)]; done) | (rw [hexF_zero (by omega) (by assumption) (by omega)]; done) | (rw [hexF_bad i3 (by assumption) (by omega)]; done) | (rw [hexF_big (hexV_end i3 (by omega)) (by omega)]; done) | (rw [hexF_ok (hexV_end i3 (by omega)) (by omega) (by omega) (by omega) (.inl (by omega))]; done) | (rw [hexF_ok (hexV_end i3 (by omega)) (by omega) (by omega) (by omega) (.inr ⟨_, by assumption, by omega⟩)]; done))⟩
            exact ⟨tup2 (congrArg (Value.int .i32) hE.1) (congrArg (Value.int .i64) hE.2), hb⟩
          · intro h38
            replace h38 : n ≤ 1114111 := by omega
            refine L_nil (thenQ_normal (W_false (by kernel_rfl) (W_skip (thenQ_normal (W_seq (W_region (L_mv (L_as (L_as (L_nil (thenQ_normal (W_ret ?_))))))))))))
            refine end_ret [.tmp 2, .tmp 3] [(.int .i32 ((n : Nat) : Int)), (.int .i64 0)] rfl hds ⟨by kernel_rfl, by kernel_rfl, trivial⟩ ?_
            have hE : ((((n : Nat) : Int) : Int) = (hexF s).1) ∧ ((0 : Int) = (hexF s).2) := ⟨(by first | (exfalso; omega) | (rw [hexF_len (by omega)]; done) | (rw [hexF_zero (by omega) (by assumption) (by omega)]; done) | (rw [hexF_bad i3 (by assumption) (by omega)]; done) | (rw [hexF_big (hexV_end i3 (by omega)) (by omega)]; done) | (rw [hexF_ok (hexV_end i3 (by omega)) (by omega) (by omega) (by omega) (.inl (by omega))]; done) | (rw [hexF_ok (hexV_end i3 (by omega)) (by omega) (by omega) (by omega) (.inr ⟨_, by assumption, by omega⟩)]; done)), (by first | (exfalso; omega) | (rw [hexF_len (by omega)]; done) | (rw [hexF_zero (by omega) (by assumption) (by omega)]; done) | (rw [hexF_bad i3 (by assumption) (by omega)]; done) | (rw [hexF_big (hexV_end i3 (by omega)) (by omega)]; done) | (rw [hexF_ok (hexV_end i3 (by omega)) (by omega) (by omega) (by omega) (.inl (by omega))]; done) | (rw [hexF_ok (hexV_end i3 (by omega)) (by omega) (by omega) (by omega) (.inr ⟨_, by assumption, by omega⟩)]; done))⟩
            exact ⟨tup2 (congrArg (Value.int .i32) hE.1) (congrArg (Value.int .i64) hE.2), hb⟩

set_option maxHeartbeats 4000000 in
set_option maxRecDepth 100000 in
theorem c_furrowref04_Digit (b : Int) (w : World) (hb0 : 0 ≤ b) :
    Calls Tryz.prog 57 #[(.int .u8 b)] w (Ret fun v w' => v = (.int .i64 (digitV b.toNat)) ∧ Below w.heap.size w w') := by
  refine enter (args := [(.int .u8 b)]) Tryz.func57 rfl (by kernel_rfl : _ = 13) (by kernel_rfl) ?_
  have hb := Below.refl w.heap.size w
  have hs : w.heap.size ≤ w.heap.size := Nat.le_refl _
  refine W_seq (W_region (L_as (L_nil (thenQ_normal (W_seq (W_seq (W_region (L_as (L_nil (thenQ_normal (W_block ?_)))))))))))
  refine W_loop (fun m s0 w0 => ∃ (i : Nat), (m = 16 - i) ∧ (s0.ds = []) ∧ (s0.f 0 = (.int .u8 b)) ∧ (s0.f 3 = (.int .i64 ((i : Nat) : Int))) ∧ (Below w.heap.size w w0) ∧ (w.heap.size ≤ w0.heap.size) ∧ (i ≤ 16) ∧ (digInv b i)) _ ⟨0, rfl, by kernel_rfl, by kernel_rfl, by kernel_rfl, hb, hs, by omega, digInv_zero b⟩ ?_
  rintro m1 s2 w3 ⟨i, hm, hds, f_0, f_3, hb, hs, i1, i3⟩
  refine W_set 0 _ f_0 (W_set 3 _ f_3 ?_)
  clear f_0 f_3
  refine W_seq (W_seq (W_region (L_mv (L_cmp .i64 ((i : Nat) : Int) ((16 : Nat) : Int) (i < 16) rfl (cmpN_lt i 16) (by kernel_rfl) (by kernel_rfl) ?_ ?_))))
  · intro h4
    replace h4 : i < 16 := by omega
    refine L_nil (thenQ_normal (W_true (by kernel_rfl) (W_skip (thenQ_normal (W_seq (W_block (W_seq (W_region (L_mv ?_)))))))))
    have hz := get_some ([48, 49, 50, 51, 52, 53, 54, 55, 56, 57, 65, 66, 67, 68, 69, 70] : List UInt8) i (by first | omega | (simp; omega)); obtain ⟨c5, hc6⟩ := hz
    have := c5.toNat_lt
    refine L_sindex (k := .i64) ([48, 49, 50, 51, 52, 53, 54, 55, 56, 57, 65, 66, 67, 68, 69, 70] : List UInt8) i c5 Tryz.underlying9 hc6 (by kernel_rfl) (by kernel_rfl) (L_mv (L_cmp .u8 ((c5.toNat : Nat) : Int) b (((c5.toNat : Nat) : Int) = b) rfl (cmp_eq ((c5.toNat : Nat) : Int) b) (by kernel_rfl) (by kernel_rfl) ?_ ?_))
    · intro h7
      replace h7 : ((c5.toNat : Nat) : Int) = b := by omega
      refine L_nil (thenQ_normal (W_true (by kernel_rfl) (W_seq (W_region (L_mv (L_as (L_nil (thenQ_normal (W_ret (blkQ_ret (thenQ_ret (thenQ_ret (blkQ_ret (thenQ_ret ?_))))))))))))))
      refine end_ret [.tmp 2] [(.int .i64 ((i : Nat) : Int))] rfl hds ⟨by kernel_rfl, trivial⟩ ?_
      have e0 : (((i : Nat) : Int) : Int) = (digitV b.toNat) := by first | exact (digInv_end i3 (by omega) hb0).symm | (have hf := dig_found (by assumption); rw [← hf]; congr 1; omega)
      exact ⟨congrArg (Value.int .i64) e0, hb⟩
    · intro h8
      replace h8 : ((c5.toNat : Nat) : Int) ≠ b := by omega
      refine L_nil (thenQ_normal (W_false (by kernel_rfl) (W_skip (blkQ_normal (thenQ_normal (W_region (L_mv (L_addN i 1 (by omega) (by kernel_rfl) (by kernel_rfl) (L_as (L_nil ?_))))))))))
      refine thenQ_normal ⟨_, ?_, (i + 1), rfl, hds, by kernel_rfl, by kernel_rfl, hb, hs, ?_, ?_⟩
      · omega
      · omega
      · exact digInv_succ i3 (by assumption) (by omega)
  · intro h9
    replace h9 : 16 ≤ i := by omega
    refine L_nil (thenQ_normal (W_false (by kernel_rfl) (W_exit (thenQ_exit (thenQ_exit (blkQ_exit (thenQ_normal (W_seq (W_region (L_as (L_nil (thenQ_normal (W_ret ?_)))))))))))))
    refine end_ret [.tmp 2] [(.int .i64 (-1))] rfl hds ⟨by kernel_rfl, trivial⟩ ?_
    have e0 : (-1 : Int) = (digitV b.toNat) := by first | exact (digInv_end i3 (by omega) hb0).symm | (have hf := dig_found (by assumption); rw [← hf]; congr 1; omega)
    exact ⟨congrArg (Value.int .i64) e0, hb⟩

set_option maxHeartbeats 4000000 in
set_option maxRecDepth 100000 in
theorem c_furrowref04_Read (s : List UInt8) (w : World) (hs : s.length ≤ 1073741824) :
    Calls Tryz.prog 33 #[(S s)] w (Ret fun v w' => v = (.tuple #[(.int .i32 ((hexF s).1)), (.int .i64 ((hexF s).2))]) ∧ Below w.heap.size w w') := by
  refine enter (args := [(S s)]) Tryz.func33 rfl (by kernel_rfl : _ = 45) (by kernel_rfl) ?_
  have hb := Below.refl w.heap.size w
  have hs : w.heap.size ≤ w.heap.size := Nat.le_refl _
  refine W_seq (W_region (L_as (L_as (L_nil (thenQ_normal (W_seq (W_seq (W_region (L_mv (L_slen 9 s rfl Tryz.underlying9 (by kernel_rfl) (L_cmp .i64 (((s).length : Nat) : Int) ((4 : Nat) : Int) ((s).length < 4) rfl (cmpN_lt ((s).length) 4) (by kernel_rfl) (by kernel_rfl) ?_ ?_)))))))))))
  · intro h1
    replace h1 : (s).length < 4 := by omega
    refine L_mv (L_skip (by kernel_rfl) (L_skip (by kernel_rfl) (L_skip (by kernel_rfl) (L_pickT (by kernel_rfl) (L_nil (thenQ_normal (W_true (by kernel_rfl) (W_seq (W_region (L_as (L_as (L_nil (thenQ_normal (W_ret (thenQ_ret ?_)))))))))))))))
    refine end_ret [.tmp 2, .tmp 3] [(.int .i32 0), (.int .i64 40)] rfl rfl ⟨by kernel_rfl, by kernel_rfl, trivial⟩ ?_
    have hE : ((0 : Int) = (hexF s).1) ∧ ((40 : Int) = (hexF s).2) := ⟨(by first | (exfalso; omega) | (rw [hexF_len (by omega)]; done) | (rw [hexF_zero (by omega) (by assumption) (by omega)]; done) | (rw [hexF_bad i3 (by assumption) (by omega)]; done) | (rw [hexF_big (hexV_end i3 (by omega)) (by omega)]; done) | (rw [hexF_ok (hexV_end i3 (by omega)) (by omega) (by omega) (by omega) (.inl (by omega))]; first | done | exact (Int.toNat_of_nonneg i0).symm) | (rw [hexF_ok (hexV_end i3 (by omega)) (by omega) (by omega) (by omega) (.inr ⟨_, by assumption, by omega⟩)]; first | done | exact (Int.toNat_of_nonneg i0).symm)), (by first | (exfalso; omega) | (rw [hexF_len (by omega)]; done) | (rw [hexF_zero (by omega) (by assumption) (by omega)]; done) | (rw [hexF_bad i3 (by assumption) (by omega)]; done) | (rw [hexF_big (hexV_end i3 (by omega)) (by omega)]; done) | (rw [hexF_ok (hexV_end i3 (by omega)) (by omega) (by omega) (by omega) (.inl (by omega))]; first | done | exact (Int.toNat_of_nonneg i0).symm) | (rw [hexF_ok (hexV_end i3 (by omega)) (by omega) (by omega) (by omega) (.inr ⟨_, by assumption, by omega⟩)]; first | done | exact (Int.toNat_of_nonneg i0).symm))⟩
    exact ⟨tup2 (congrArg (Value.int .i32) hE.1) (congrArg (Value.int .i64) hE.2), hb⟩
  · intro h2
    replace h2 : 4 ≤ (s).length := by omega
    refine L_mv (L_want (by kernel_rfl) (L_mv (L_want (by kernel_rfl) (L_slen 9 s rfl Tryz.underlying9 (by kernel_rfl) (L_want (by kernel_rfl) (L_cmp .i64 (((s).length : Nat) : Int) ((6 : Nat) : Int) (6 < (s).length) rfl (cmpN_gt ((s).length) 6) (by kernel_rfl) (by kernel_rfl) ?_ ?_))))))
    · intro h3
      replace h3 : 6 < (s).length := by omega
      refine L_pickF (by kernel_rfl) (L_nil (thenQ_normal (W_true (by kernel_rfl) (W_seq (W_region (L_as (L_as (L_nil (thenQ_normal (W_ret (thenQ_ret ?_)))))))))))
      refine end_ret [.tmp 2, .tmp 3] [(.int .i32 0), (.int .i64 40)] rfl rfl ⟨by kernel_rfl, by kernel_rfl, trivial⟩ ?_
      have hE : ((0 : Int) = (hexF s).1) ∧ ((40 : Int) = (hexF s).2) := ⟨(by first | (exfalso; omega) | (rw [hexF_len (by omega)]; done) | (rw [hexF_zero (by omega) (by assumption) (by omega)]; done) | (rw [hexF_bad i3 (by assumption) (by omega)]; done) | (rw [hexF_big (hexV_end i3 (by omega)) (by omega)]; done) | (rw [hexF_ok (hexV_end i3 (by omega)) (by omega) (by omega) (by omega) (.inl (by omega))]; first | done | exact (Int.toNat_of_nonneg i0).symm) | (rw [hexF_ok (hexV_end i3 (by omega)) (by omega) (by omega) (by omega) (.inr ⟨_, by assumption, by omega⟩)]; first | done | exact (Int.toNat_of_nonneg i0).symm)), (by first | (exfalso; omega) | (rw [hexF_len (by omega)]; done) | (rw [hexF_zero (by omega) (by assumption) (by omega)]; done) | (rw [hexF_bad i3 (by assumption) (by omega)]; done) | (rw [hexF_big (hexV_end i3 (by omega)) (by omega)]; done) | (rw [hexF_ok (hexV_end i3 (by omega)) (by omega) (by omega) (by omega) (.inl (by omega))]; first | done | exact (Int.toNat_of_nonneg i0).symm) | (rw [hexF_ok (hexV_end i3 (by omega)) (by omega) (by omega) (by omega) (.inr ⟨_, by assumption, by omega⟩)]; first | done | exact (Int.toNat_of_nonneg i0).symm))⟩
      exact ⟨tup2 (congrArg (Value.int .i32) hE.1) (congrArg (Value.int .i64) hE.2), hb⟩
    · intro h4
      replace h4 : (s).length ≤ 6 := by omega
      refine L_pickF (by kernel_rfl) (L_nil (thenQ_normal (W_false (by kernel_rfl) (W_skip (thenQ_normal (W_seq (W_region (L_as (L_nil (thenQ_normal (W_seq (W_seq (W_region (L_as (L_nil (thenQ_normal (W_block ?_)))))))))))))))))
      refine W_loop (fun m s0 w0 => ∃ (i : Nat) (z : Int), (m = s.length - i) ∧ (s0.ds = []) ∧ (s0.f 0 = (S s)) ∧ (s0.f 4 = (.int .i64 z)) ∧ (s0.f 5 = (.int .i64 ((i : Nat) : Int))) ∧ (Below w.heap.size w w0) ∧ (w.heap.size ≤ w0.heap.size) ∧ (0 ≤ z) ∧ (i ≤ s.length) ∧ (z.toNat < 16 ^ i) ∧ (hexV (s.drop i) z.toNat = hexV s 0)) _ ⟨0, 0, rfl, by kernel_rfl, by kernel_rfl, by kernel_rfl, by kernel_rfl, hb, hs, by omega, by omega, by decide, rfl⟩ ?_
      rintro m5 s6 w7 ⟨i, z, hm, hds, f_0, f_4, f_5, hb, hs, i0, i1, i2, i3⟩
      refine W_set 0 _ f_0 (W_set 4 _ f_4 (W_set 5 _ f_5 ?_))
      clear f_0 f_4 f_5
      have hp5 : i ≤ 5 → z.toNat < 1048576 := pow16 i2
      have hp6 : i ≤ 6 → z.toNat < 16777216 := pow166 i2
      refine W_seq (W_seq (W_region (L_mv (L_mv (L_slen 9 s rfl Tryz.underlying9 (by kernel_rfl) (L_cmp .i64 ((i : Nat) : Int) (((s).length : Nat) : Int) (i < (s).length) rfl (cmpN_lt i ((s).length)) (by kernel_rfl) (by kernel_rfl) ?_ ?_))))))
      · intro h8
        replace h8 : i < (s).length := by omega
        refine L_nil (thenQ_normal (W_true (by kernel_rfl) (W_skip (thenQ_normal (W_seq (W_block (W_seq (W_region (L_mv (L_mv ?_))))))))))
        have hz := get_some s i (by omega); obtain ⟨c9, hc10⟩ := hz
        have := c9.toNat_lt
        have hdt : digitV ((c9.toNat : Nat) : Int).toNat = digitV c9.toNat := rfl
        have hdr := digitV_range c9.toNat
        have hzz : ∀ q, q = ((z * 16) + (digitV ((c9.toNat : Nat) : Int).toNat)) → 0 ≤ digitV c9.toNat → q.toNat = 16 * z.toNat + (digitV c9.toNat).toNat := fun q h1 h2 => by omega
        refine L_sindex (k := .i64) s i c9 Tryz.underlying9 hc10 (by kernel_rfl) (by kernel_rfl) (L_call 57 [(.int .u8 ((c9.toNat : Nat) : Int))] (by kernel_rfl) (by kernel_rfl) (c_furrowref04_Digit ((c9.toNat : Nat) : Int) _ (by omega)) ?_)
        rintro _ w11 ⟨rfl, hB12⟩
        replace hb := hb.trans (hB12.mono hs)
        replace hs := Nat.le_trans hs (hB12.size)
        have := digitV_range ((c9.toNat : Nat) : Int).toNat
        refine L_as (L_nil (thenQ_normal (W_seq (W_seq (W_region (L_mv (L_cmp .i64 (digitV ((c9.toNat : Nat) : Int).toNat) 0 ((digitV ((c9.toNat : Nat) : Int).toNat) < 0) rfl (cmp_lt (digitV ((c9.toNat : Nat) : Int).toNat) 0) (by kernel_rfl) (by kernel_rfl) ?_ ?_)))))))
        · intro h14
          replace h14 : (digitV ((c9.toNat : Nat) : Int).toNat) < 0 := by omega
          refine L_nil (thenQ_normal (W_true (by kernel_rfl) (W_seq (W_region (L_as (L_as (L_nil (thenQ_normal (W_ret (thenQ_ret (blkQ_ret (thenQ_ret (thenQ_ret (blkQ_ret (thenQ_ret ?_)))))))))))))))
          refine end_ret [.tmp 2, .tmp 3] [(.int .i32 0), (.int .i64 40)] rfl hds ⟨by kernel_rfl, by kernel_rfl, trivial⟩ ?_
          have hE : ((0 : Int) = (hexF s).1) ∧ ((40 : Int) = (hexF s).2) := ⟨(by first | (exfalso; omega) | (rw [hexF_len (by omega)]; done) | (rw [hexF_zero (by omega) (by assumption) (by omega)]; done) | (rw [hexF_bad i3 (by assumption) (by omega)]; done) | (rw [hexF_big (hexV_end i3 (by omega)) (by omega)]; done) | (rw [hexF_ok (hexV_end i3 (by omega)) (by omega) (by omega) (by omega) (.inl (by omega))]; first | done | exact (Int.toNat_of_nonneg i0).symm) | (rw [hexF_ok (hexV_end i3 (by omega)) (by omega) (by omega) (by omega) (.inr ⟨_, by assumption, by omega⟩)]; first | done | exact (Int.toNat_of_nonneg i0).symm)), (by first | (exfalso; omega) | (rw [hexF_len (by omega)]; done) | (rw [hexF_zero (by omega) (by assumption) (by omega)]; done) | (rw [hexF_bad i3 (by assumption) (by omega)]; done) | (rw [hexF_big (hexV_end i3 (by omega)) (by omega)]; done) | (rw [hexF_ok (hexV_end i3 (by omega)) (by omega) (by omega) (by omega) (.inl (by omega))]; first | done | exact (Int.toNat_of_nonneg i0).symm) | (rw [hexF_ok (hexV_end i3 (by omega)) (by omega) (by omega) (by omega) (.inr ⟨_, by assumption, by omega⟩)]; first | done | exact (Int.toNat_of_nonneg i0).symm))⟩
          exact ⟨tup2 (congrArg (Value.int .i32) hE.1) (congrArg (Value.int .i64) hE.2), hb⟩
        · intro h15
          replace h15 : 0 ≤ (digitV ((c9.toNat : Nat) : Int).toNat) := by omega
          refine L_nil (thenQ_normal (W_false (by kernel_rfl) (W_skip (thenQ_normal (W_region (L_mv (L_arith z 16 (z * 16) rfl (by kernel_rfl) (by kernel_rfl) (wrap_i64 _ (by simp only [arithZ]; omega) (by simp only [arithZ]; omega)) (L_mv (L_arith (z * 16) (digitV ((c9.toNat : Nat) : Int).toNat) ((z * 16) + (digitV ((c9.toNat : Nat) : Int).toNat)) rfl (by kernel_rfl) (by kernel_rfl) (wrap_i64 _ (by simp only [arithZ]; omega) (by simp only [arithZ]; omega)) (L_as (L_nil (blkQ_normal (thenQ_normal (W_region (L_mv (L_addN i 1 (by omega) (by kernel_rfl) (by kernel_rfl) (L_as (L_nil ?_))))))))))))))))))
          refine thenQ_normal ⟨_, ?_, (i + 1), ((z * 16) + (digitV ((c9.toNat : Nat) : Int).toNat)), rfl, hds, by kernel_rfl, by kernel_rfl, by kernel_rfl, hb, hs, ?_, ?_, ?_, ?_⟩
          · omega
          · omega
          · omega
          · rw [hzz _ rfl (by omega)]; exact pow16s i2 (by omega)
          · rw [hzz _ rfl (by omega)]; exact hexV_step i3 (by assumption) (by omega)
      · intro h16
        replace h16 : (s).length ≤ i := by omega
        refine L_nil (thenQ_normal (W_false (by kernel_rfl) (W_exit (thenQ_exit (thenQ_exit (blkQ_exit (thenQ_normal (W_seq (W_seq (W_region (L_mv (L_cmp .i64 z 1114111 (1114111 < z) rfl (cmp_gt z 1114111) (by kernel_rfl) (by kernel_rfl) ?_ ?_))))))))))))
        · intro h17
          replace h17 : 1114111 < z := by omega
          refine L_mv (L_skip (by kernel_rfl) (L_skip (by kernel_rfl) (L_skip (by kernel_rfl) (L_skip (by kernel_rfl) (L_skip (by kernel_rfl) (L_skip (by kernel_rfl) (L_skip (by kernel_rfl) (L_skip (by kernel_rfl) (L_pickT (by kernel_rfl) (L_nil (thenQ_normal (W_true (by kernel_rfl) (W_seq (W_region (L_as (L_as (L_nil (thenQ_normal (W_ret (thenQ_ret ?_))))))))))))))))))))
          refine end_ret [.tmp 2, .tmp 3] [(.int .i32 0), (.int .i64 40)] rfl hds ⟨by kernel_rfl, by kernel_rfl, trivial⟩ ?_
          have hE : ((0 : Int) = (hexF s).1) ∧ ((40 : Int) = (hexF s).2) := ⟨(by first | (exfalso; omega) | (rw [hexF_len (by omega)]; done) | (rw [hexF_zero (by omega) (by assumption) (by omega)]; done) | (rw [hexF_bad i3 (by assumption) (by omega)]; done) | (rw [hexF_big (hexV_end i3 (by omega)) (by omega)]; done) | (rw [hexF_ok (hexV_end i3 (by omega)) (by omega) (by omega) (by omega) (.inl (by omega))]; first | done | exact (Int.toNat_of_nonneg i0).symm) | (rw [hexF_ok (hexV_end i3 (by omega)) (by omega) (by omega) (by omega) (.inr ⟨_, by assumption, by omega⟩)]; first | done | exact (Int.toNat_of_nonneg i0).symm)), (by first | (exfalso; omega) | (rw [hexF_len (by omega)]; done) | (rw [hexF_zero (by omega) (by assumption) (by omega)]; done) | (rw [hexF_bad i3 (by assumption) (by omega)]; done) | (rw [hexF_big (hexV_end i3 (by omega)) (by omega)]; done) | (rw [hexF_ok (hexV_end i3 (by omega)) (by omega) (by omega) (by omega) (.inl (by omega))]; first | done | exact (Int.toNat_of_nonneg i0).symm) | (rw [hexF_ok (hexV_end i3 (by omega)) (by omega) (by omega) (by omega) (.inr ⟨_, by assumption, by omega⟩)]; first | done | exact (Int.toNat_of_nonneg i0).symm))⟩
          exact ⟨tup2 (congrArg (Value.int .i32) hE.1) (congrArg (Value.int .i64) hE.2), hb⟩
        · intro h18
          replace h18 : z ≤ 1114111 := by omega
          refine L_mv (L_want (by kernel_rfl) (L_mv (L_want (by kernel_rfl) (L_slen 9 s rfl Tryz.underlying9 (by kernel_rfl) (L_want (by kernel_rfl) (L_cmp .i64 (((s).length : Nat) : Int) ((4 : Nat) : Int) (4 < (s).length) rfl (cmpN_gt ((s).length) 4) (by kernel_rfl) (by kernel_rfl) ?_ ?_))))))
          · intro h19
            replace h19 : 4 < (s).length := by omega
            refine L_want (by kernel_rfl) (L_mv (L_want (by kernel_rfl) (L_mv (L_want (by kernel_rfl) ?_))))
            have hz := get_some s 0 (by omega); obtain ⟨c20, hc21⟩ := hz
            have := c20.toNat_lt
            have hdt : digitV ((c20.toNat : Nat) : Int).toNat = digitV c20.toNat := rfl
            have hdr := digitV_range c20.toNat
            have hzz : ∀ q, q = ((z * 16) + (digitV ((c20.toNat : Nat) : Int).toNat)) → 0 ≤ digitV c20.toNat → q.toNat = 16 * z.toNat + (digitV c20.toNat).toNat := fun q h1 h2 => by omega
            refine L_sindex (k := .i64) s 0 c20 Tryz.underlying9 hc21 (by kernel_rfl) (by kernel_rfl) (L_want (by kernel_rfl) (L_cmp .u8 ((c20.toNat : Nat) : Int) ((48 : Nat) : Int) (c20.toNat = 48) rfl (cmpN_eq c20.toNat 48) (by kernel_rfl) (by kernel_rfl) ?_ ?_))
            · intro h22
              replace h22 : c20.toNat = 48 := by omega
              refine L_want (by kernel_rfl) (L_pickT (by kernel_rfl) (L_pickF (by kernel_rfl) (L_nil (thenQ_normal (W_true (by kernel_rfl) (W_seq (W_region (L_as (L_as (L_nil (thenQ_normal (W_ret (thenQ_ret ?_)))))))))))))
              refine end_ret [.tmp 2, .tmp 3] [(.int .i32 0), (.int .i64 40)] rfl hds ⟨by kernel_rfl, by kernel_rfl, trivial⟩ ?_
              have hE : ((0 : Int) = (hexF s).1) ∧ ((40 : Int) = (hexF s).2) := ⟨(by first | (exfalso; omega) | (rw [hexF_len (by omega)]; done) | (rw [hexF_zero (by omega) (by assumption) (by omega)]; done) | (rw [hexF_bad i3 (by assumption) (by omega)]; done) | (rw [hexF_big (hexV_end i3 (by omega)) (by omega)]; done) | (rw [hexF_ok (hexV_end i3 (by omega)) (by omega) (by omega) (by omega) (.inl (by omega))]; first | done | exact (Int.toNat_of_nonneg i0).symm) | (rw [hexF_ok (hexV_end i3 (by omega)) (by omega) (by omega) (by omega) (.inr ⟨_, by assumption, by omega⟩)]; first | done | exact (Int.toNat_of_nonneg i0).symm)), (by first | (exfalso; omega) | (rw [hexF_len (by omega)]; done) | (rw [hexF_zero (by omega) (by assumption) (by omega)]; done) | (rw [hexF_bad i3 (by assumption) (by omega)]; done) | (rw [hexF_big (hexV_end i3 (by omega)) (by omega)]; done) | (rw [hexF_ok (hexV_end i3 (by omega)) (by omega) (by omega) (by omega) (.inl (by omega))]; first | done | exact (Int.toNat_of_nonneg i0).symm) | (rw [hexF_ok (hexV_end i3 (by omega)) (by omega) (by omega) (by omega) (.inr ⟨_, by assumption, by omega⟩)]; first | done | exact (Int.toNat_of_nonneg i0).symm))⟩
              exact ⟨tup2 (congrArg (Value.int .i32) hE.1) (congrArg (Value.int .i64) hE.2), hb⟩
            · intro h23
              replace h23 : c20.toNat ≠ 48 := by omega
              refine L_want (by kernel_rfl) (L_pickT (by kernel_rfl) (L_pickF (by kernel_rfl) (L_nil (thenQ_normal (W_false (by kernel_rfl) (W_skip (thenQ_normal (W_seq (W_region (L_mv (L_conv (k := .i64) z z (by kernel_rfl) Tryz.underlying21 (by kernel_rfl) (wrap_i32 _ (by omega) (by omega)) (L_as (L_as (L_nil (thenQ_normal (W_ret ?_))))))))))))))))
              refine end_ret [.tmp 2, .tmp 3] [(.int .i32 z), (.int .i64 0)] rfl hds ⟨by kernel_rfl, by kernel_rfl, trivial⟩ ?_
              have hE : ((z : Int) = (hexF s).1) ∧ ((0 : Int) = (hexF s).2) := ⟨(by first | (exfalso; omega) | (rw [hexF_len (by omega)]; done) | (rw [hexF_zero (by omega) (by assumption) (by omega)]; done) | (rw [hexF_bad i3 (by assumption) (by omega)]; done) | (rw [hexF_big (hexV_end i3 (by omega)) (by omega)]; done) | (rw [hexF_ok (hexV_end i3 (by omega)) (by omega) (by omega) (by omega) (.inl (by omega))]; first | done | exact (Int.toNat_of_nonneg i0).symm) | (rw [hexF_ok (hexV_end i3 (by omega)) (by omega) (by omega) (by omega) (.inr ⟨_, by assumption, by omega⟩)]; first | done | exact (Int.toNat_of_nonneg i0).symm)), (by first | (exfalso; omega) | (rw [hexF_len (by omega)]; done) | (rw [hexF_zero (by omega) (by assumption) (by omega)]; done) | (rw [hexF_bad i3 (by assumption) (by omega)]; done) | (rw [hexF_big (hexV_end i3 (by omega)) (by omega)]; done) | (rw [hexF_ok (hexV_end i3 (by omega)) (by omega) (by omega) (by omega) (.inl (by omega))]; first | done | exact (Int.toNat_of_nonneg i0).symm) | (rw [hexF_ok (hexV_end i3 (by omega)) (by omega) (by omega) (by omega) (.inr ⟨_, by assumption, by omega⟩)]; first | done | exact (Int.toNat_of_nonneg i0).symm))⟩
              exact ⟨tup2 (congrArg (Value.int .i32) hE.1) (congrArg (Value.int .i64) hE.2), hb⟩
          · intro h24
            replace h24 : (s).length ≤ 4 := by omega
            refine L_want (by kernel_rfl) (L_mv (L_skip (by kernel_rfl) (L_skip (by kernel_rfl) (L_skip (by kernel_rfl) (L_want (by kernel_rfl) (L_pickF (by kernel_rfl) (L_pickF (by kernel_rfl) (L_nil (thenQ_normal (W_false (by kernel_rfl) (W_skip (thenQ_normal (W_seq (W_region (L_mv (L_conv (k := .i64) z z (by kernel_rfl) Tryz.underlying21 (by kernel_rfl) (wrap_i32 _ (by omega) (by omega)) (L_as (L_as (L_nil (thenQ_normal (W_ret ?_)))))))))))))))))))))
            refine end_ret [.tmp 2, .tmp 3] [(.int .i32 z), (.int .i64 0)] rfl hds ⟨by kernel_rfl, by kernel_rfl, trivial⟩ ?_
            have hE : ((z : Int) = (hexF s).1) ∧ ((0 : Int) = (hexF s).2) := ⟨(by first | (exfalso; omega) | (rw [hexF_len (by omega)]; done) | (rw [hexF_zero (by omega) (by assumption) (by omega)]; done) | (rw [hexF_bad i3 (by assumption) (by omega)]; done) | (rw [hexF_big (hexV_end i3 (by omega)) (by omega)]; done) | (rw [hexF_ok (hexV_end i3 (by omega)) (by omega) (by omega) (by omega) (.inl (by omega))]; first | done | exact (Int.toNat_of_nonneg i0).symm) | (rw [hexF_ok (hexV_end i3 (by omega)) (by omega) (by omega) (by omega) (.inr ⟨_, by assumption, by omega⟩)]; first | done | exact (Int.toNat_of_nonneg i0).symm)), (by first | (exfalso; omega) | (rw [hexF_len (by omega)]; done) | (rw [hexF_zero (by omega) (by assumption) (by omega)]; done) | (rw [hexF_bad i3 (by assumption) (by omega)]; done) | (rw [hexF_big (hexV_end i3 (by omega)) (by omega)]; done) | (rw [hexF_ok (hexV_end i3 (by omega)) (by omega) (by omega) (by omega) (.inl (by omega))]; first | done | exact (Int.toNat_of_nonneg i0).symm) | (rw [hexF_ok (hexV_end i3 (by omega)) (by omega) (by omega) (by omega) (.inr ⟨_, by assumption, by omega⟩)]; first | done | exact (Int.toNat_of_nonneg i0).symm))⟩
            exact ⟨tup2 (congrArg (Value.int .i32) hE.1) (congrArg (Value.int .i64) hE.2), hb⟩


set_option maxHeartbeats 4000000 in
set_option maxRecDepth 100000 in
theorem bl_copy0 (b : Nat) (v : Value) (w : World) (ho : w.heap[b]? = some (.cells [(.pointer none), v].toArray 77 (0, 0))) :
    Calls Tryz.prog 40 #[(.pointer (some ⟨b, 0, none⟩))] w (Ret fun v1 w1 => v1 = (.tuple #[]) ∧ Wrote w w1 b (.cells [(.pointer (some ⟨b, 0, none⟩)), v].toArray 77 (0, 0))) := by
  refine enter (args := [(.pointer (some ⟨b, 0, none⟩))]) Tryz.func40 rfl (by kernel_rfl : _ = 20) (by kernel_rfl) ?_
  have hb := Below.refl w.heap.size w
  have hs : w.heap.size ≤ w.heap.size := Nat.le_refl _
  refine W_seq (W_region (L_mv (L_run (.pointer (some ⟨b, 0, none⟩)) (by kernel_rfl) (by kernel_rfl) (L_run (.pointer (some ⟨b, 0, none⟩)) (by kernel_rfl) (by kernel_rfl) (L_load b 0 (.pointer none) (by kernel_rfl) (by kernel_rfl) (cell_obj ho rfl) (L_run (.bool true) (by kernel_rfl) (by kernel_rfl) (L_nil (thenQ_normal (W_true (by kernel_rfl) (W_region (L_mv (L_mv (L_toUns (k := 2) b Tryz.underlying74 Tryz.underlying60 (by kernel_rfl) (by kernel_rfl) ho (by kernel_rfl) (by kernel_rfl) (L_run (.pointer (some ⟨b, 0, none⟩)) (by kernel_rfl) (by kernel_rfl) (L_fromUns (k := 2) b Tryz.underlying60 Tryz.underlying74 (by kernel_rfl) ho (by kernel_rfl) (by kernel_rfl) (L_run (.pointer (some ⟨b, 0, none⟩)) (by kernel_rfl) (by kernel_rfl) (L_run (.pointer (some ⟨b, 0, none⟩)) (by kernel_rfl) (by kernel_rfl) (L_store b 0 (.pointer (some ⟨b, 0, none⟩)) [(.pointer none), v] [(.pointer (some ⟨b, 0, none⟩)), v] 77 (by kernel_rfl) (by kernel_rfl) rfl (by kernel_rfl) ho (by simp) rfl ?_))))))))))))))))))
  intro w1 hW2
  replace hs := Nat.le_trans hs (Nat.le_of_eq hW2.size.symm)
  replace ho := hW2.here
  refine L_nil ?_
  refine end_normal [] [] rfl rfl trivial ?_
  exact ⟨rfl, hW2⟩

set_option maxHeartbeats 4000000 in
set_option maxRecDepth 100000 in
theorem bl_copy1 (b : Nat) (v : Value) (w : World) (ho : w.heap[b]? = some (.cells [(.pointer (some ⟨b, 0, none⟩)), v].toArray 77 (0, 0))) :
    Calls Tryz.prog 40 #[(.pointer (some ⟨b, 0, none⟩))] w (Ret fun v1 w1 => v1 = (.tuple #[]) ∧ w1 = w) := by
  refine enter (args := [(.pointer (some ⟨b, 0, none⟩))]) Tryz.func40 rfl (by kernel_rfl : _ = 20) (by kernel_rfl) ?_
  have hb := Below.refl w.heap.size w
  have hs : w.heap.size ≤ w.heap.size := Nat.le_refl _
  refine W_seq (W_region (L_mv (L_run (.pointer (some ⟨b, 0, none⟩)) (by kernel_rfl) (by kernel_rfl) (L_run (.pointer (some ⟨b, 0, none⟩)) (by kernel_rfl) (by kernel_rfl) (L_load b 0 (.pointer (some ⟨b, 0, none⟩)) (by kernel_rfl) (by kernel_rfl) (cell_obj ho rfl) (L_run (.bool false) (by kernel_rfl) (by kernel_rfl) (L_nil (thenQ_normal (W_false (by kernel_rfl) (W_seq (W_region (L_mv (L_run (.pointer (some ⟨b, 0, none⟩)) (by kernel_rfl) (by kernel_rfl) (L_run (.pointer (some ⟨b, 0, none⟩)) (by kernel_rfl) (by kernel_rfl) (L_load b 0 (.pointer (some ⟨b, 0, none⟩)) (by kernel_rfl) (by kernel_rfl) (cell_obj ho rfl) (L_mv (L_pneF (k := 2) b Tryz.underlying74 (by kernel_rfl) (by kernel_rfl) (by kernel_rfl) (by kernel_rfl) (L_nil (thenQ_normal (W_false (by kernel_rfl) (W_skip ?_)))))))))))))))))))))
  refine end_normal [] [] rfl rfl trivial ?_
  exact ⟨rfl, rfl⟩

theorem bl_copy (b : Nat) (p v : Value) (w : World) (hp : p = .pointer none ∨ p = (.pointer (some ⟨b, 0, none⟩))) (ho : w.heap[b]? = some (.cells [p, v].toArray 77 (0, 0))) :
    Calls Tryz.prog 40 #[(.pointer (some ⟨b, 0, none⟩))] w (Ret fun v1 w1 => v1 = (.tuple #[]) ∧ ((w1 = w ∧ p = (.pointer (some ⟨b, 0, none⟩))) ∨ Wrote w w1 b (.cells [(.pointer (some ⟨b, 0, none⟩)), v].toArray 77 (0, 0)))) := by
  rcases hp with rfl | rfl
  · refine (bl_copy0 b v w ho).mono ?_
    rintro e w1 ⟨u, rfl, rfl, h⟩
    exact ⟨_, rfl, rfl, .inr h⟩
  · refine (bl_copy1 b v w ho).mono ?_
    rintro e w1 ⟨u, rfl, rfl, h⟩
    exact ⟨_, rfl, rfl, .inl ⟨h, rfl⟩⟩


set_option maxHeartbeats 4000000 in
set_option maxRecDepth 100000 in
theorem bl_WriteString (B b : Nat) (l : List UInt8) (x : List UInt8) (w : World) (h : Bld 77 5 B b l w) (hl : l.length ≤ 1073741824) (hx : x.length ≤ 1073741824) (hB : B ≤ w.heap.size) :
    Calls Tryz.prog 24 #[(.pointer (some ⟨b, 0, none⟩)), (S x)] w (Ret fun v1 w3 => v1 = (.tuple #[.int .i64 ((x.length : Nat) : Int), .nilIface]) ∧ Bld 77 5 B b (l ++ x) w3 ∧ Below B w w3 ∧ Lib.OthersKept 5 (some b) w w3) := by
  refine enter (args := [(.pointer (some ⟨b, 0, none⟩)), (S x)]) Tryz.func24 rfl (by kernel_rfl : _ = 19) (by kernel_rfl) ?_
  have hb := Below.refl w.heap.size w
  have hs : w.heap.size ≤ w.heap.size := Nat.le_refl _
  have hz := bld_open h
  obtain ⟨hBb, p, v, hp, ho, hown, hne⟩ := hz
  refine W_seq (W_region (L_as (L_as (L_nil (thenQ_normal (W_seq (W_region (L_mv (L_call 40 [(.pointer (some ⟨b, 0, none⟩))] (by kernel_rfl) (by kernel_rfl) (bl_copy b p v _ hp ho) ?_)))))))))
  rintro _ w1 ⟨rfl, hcc⟩
  have hz := copy_out hcc hBb ho hown hne
  obtain ⟨ho1, hown1, hb1, hO1, hs1⟩ := hz
  have hBs : B ≤ w1.heap.size := Nat.le_trans hB hs1
  replace hs := Nat.le_trans hs hs1
  refine L_nil (thenQ_normal (W_seq (W_region (L_mv (L_mv (L_run (.pointer (some ⟨b, 0, none⟩)) (by kernel_rfl) (by kernel_rfl) (L_run (.pointer (some ⟨b, 1, none⟩)) (by kernel_rfl) (by kernel_rfl) (L_load b 1 v (by kernel_rfl) (by kernel_rfl) (cell_obj ho1 rfl) (L_mv (L_appStrF x Tryz.underlying75 Tryz.underlying9 (by kernel_rfl) hown1 hl hx hBs (by kernel_rfl) (by kernel_rfl) ?_))))))))))
  intro v2 w2 hown2 hg2
  have ho2 := obj_grown ho1 hg2 (frow_ne hown1 ho1 (by kernel_rfl))
  have ho2k := ho2
  replace hs := Nat.le_trans hs hg2.size
  refine L_run (.pointer (some ⟨b, 0, none⟩)) (by kernel_rfl) (by kernel_rfl) (L_run (.pointer (some ⟨b, 1, none⟩)) (by kernel_rfl) (by kernel_rfl) (L_store b 1 v2 [(.pointer (some ⟨b, 0, none⟩)), v] [(.pointer (some ⟨b, 0, none⟩)), v2] 77 (by kernel_rfl) (by kernel_rfl) (frow_one hown2) (by kernel_rfl) ho2 (by simp) rfl ?_))
  intro w1 hW2
  replace hs := Nat.le_trans hs (Nat.le_of_eq hW2.size.symm)
  replace ho2 := hW2.here
  refine L_nil (thenQ_normal (W_seq (W_region (L_mv (L_slen 9 x rfl Tryz.underlying9 (by kernel_rfl) (L_as (L_as (L_nil (thenQ_normal (W_ret ?_))))))))))
  refine end_ret [.tmp 4, .tmp 5] [(.int .i64 (((x).length : Nat) : Int)), .nilIface] rfl rfl ⟨by kernel_rfl, by kernel_rfl, trivial⟩ ?_
  have hz := bld_shut hBb hb1 hO1 hBs hown1 hg2 hown2 ho2k hW2 (by kernel_rfl)
  exact ⟨rfl, hz⟩


set_option maxHeartbeats 4000000 in
set_option maxRecDepth 100000 in
theorem bl_WriteByte (B b : Nat) (l : List UInt8) (c : UInt8) (w : World) (h : Bld 77 5 B b l w) (hl : l.length ≤ 1073741824) (hB : B ≤ w.heap.size) :
    Calls Tryz.prog 23 #[(.pointer (some ⟨b, 0, none⟩)), (.int .u8 ((c.toNat : Nat) : Int))] w (Ret fun v1 w3 => v1 = .nilIface ∧ Bld 77 5 B b (l ++ [c]) w3 ∧ Below B w w3 ∧ Lib.OthersKept 5 (some b) w w3) := by
  refine enter (args := [(.pointer (some ⟨b, 0, none⟩)), (.int .u8 ((c.toNat : Nat) : Int))]) Tryz.func23 rfl (by kernel_rfl : _ = 17) (by kernel_rfl) ?_
  have hb := Below.refl w.heap.size w
  have hs : w.heap.size ≤ w.heap.size := Nat.le_refl _
  have hz := bld_open h
  obtain ⟨hBb, p, v, hp, ho, hown, hne⟩ := hz
  refine W_seq (W_region (L_as (L_nil (thenQ_normal (W_seq (W_region (L_mv (L_call 40 [(.pointer (some ⟨b, 0, none⟩))] (by kernel_rfl) (by kernel_rfl) (bl_copy b p v _ hp ho) ?_))))))))
  rintro _ w1 ⟨rfl, hcc⟩
  have hz := copy_out hcc hBb ho hown hne
  obtain ⟨ho1, hown1, hb1, hO1, hs1⟩ := hz
  have hBs : B ≤ w1.heap.size := Nat.le_trans hB hs1
  replace hs := Nat.le_trans hs hs1
  refine L_nil (thenQ_normal (W_seq (W_region (L_mv (L_mv (L_run (.pointer (some ⟨b, 0, none⟩)) (by kernel_rfl) (by kernel_rfl) (L_run (.pointer (some ⟨b, 1, none⟩)) (by kernel_rfl) (by kernel_rfl) (L_load b 1 v (by kernel_rfl) (by kernel_rfl) (cell_obj ho1 rfl) (L_mv (L_new (fun b => .slice (some ⟨b, 0, none⟩) 1 1) (.cells [(.int .u8 ((c.toNat : Nat) : Int))].toArray 5 (0, 0)) (by kernel_rfl) (by kernel_rfl) ?_))))))))))
  intro g w1a hN1
  have hNb := hN1.below
  replace ho1 := obj_below ho1 hNb; replace hO1 := hO1.trans (kept_below hNb); replace hb1 := hb1.trans (hNb.mono hBs); replace hown1 := frow_below hown1 hNb; replace hBs := Nat.le_trans hBs hNb.size; replace hs := Nat.le_trans hs hNb.size
  refine L_appByteF c g Tryz.underlying75 (by kernel_rfl) hown1 hl hN1.here hBs (by kernel_rfl) (by kernel_rfl) ?_
  intro v2 w2 hown2 hg2
  have ho2 := obj_grown ho1 hg2 (frow_ne hown1 ho1 (by kernel_rfl))
  have ho2k := ho2
  replace hs := Nat.le_trans hs hg2.size
  refine L_run (.pointer (some ⟨b, 0, none⟩)) (by kernel_rfl) (by kernel_rfl) (L_run (.pointer (some ⟨b, 1, none⟩)) (by kernel_rfl) (by kernel_rfl) (L_store b 1 v2 [(.pointer (some ⟨b, 0, none⟩)), v] [(.pointer (some ⟨b, 0, none⟩)), v2] 77 (by kernel_rfl) (by kernel_rfl) (frow_one hown2) (by kernel_rfl) ho2 (by simp) rfl ?_))
  intro w1 hW2
  replace hs := Nat.le_trans hs (Nat.le_of_eq hW2.size.symm)
  replace ho2 := hW2.here
  refine L_nil (thenQ_normal (W_seq (W_region (L_as (L_nil (thenQ_normal (W_ret ?_)))))))
  refine end_ret [.tmp 4] [.nilIface] rfl rfl ⟨by kernel_rfl, trivial⟩ ?_
  have hz := bld_shut hBb hb1 hO1 hBs hown1 hg2 hown2 ho2k hW2 (by kernel_rfl)
  exact ⟨rfl, hz⟩



end Go.Proofs.YtjdcmeoiommglaaGreatDoor
