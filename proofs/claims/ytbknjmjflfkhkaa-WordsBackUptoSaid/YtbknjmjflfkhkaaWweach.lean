/- Walks, written by my program walk.py out of the specification weach.py: each theorem says what one function returns and that it leaves memory as it was. -/
import Derived.Test.YtbknjmjflfkhkaaPEach
import Derived.Test.YtbknjmjflfkhkaaWwords
import Derived.Test.YtbknjmjflfkhkaaFKh
import Derived.Test.YtbknjmjflfkhkaaProg
namespace Go.Proofs.Ytbknjmjflfkhkaa
open Go Go.RowKit Go.FK
set_option linter.unusedVariables false

theorem el24 : Elem Try.prog 24 30 2 24 := ⟨Try.underlying24, by kernel_rfl, rfl⟩
set_option maxHeartbeats 4000000 in
set_option maxRecDepth 100000 in
theorem c_furrowref05_Words (s : List UInt8) (w : World) (hs : s.length ≤ 1073741824) :
    Calls Try.prog 16 #[(S s)] w (Ret fun v w' => ∃ (q0 : Value), v = q0 ∧ Row w' w.heap.size 30 2 encWord q0 (wordsOf s) ∧ Below w.heap.size w w') := by
  refine enter (args := [(S s)]) Try.func16 rfl (by kernel_rfl : _ = 67) (by kernel_rfl) ?_
  have hb := Below.refl w.heap.size w
  have hs : w.heap.size ≤ w.heap.size := Nat.le_refl _
  refine W_seq (W_region (L_as (L_nil (thenQ_normal (W_seq (W_region (L_mv (L_call 39 [(S s)] (by kernel_rfl) (by kernel_rfl) (c_furrowref01_Spots s _ (by omega)) ?_))))))))
  rintro q1 w2 ⟨_, rfl, r_q1, hB3⟩
  replace r_q1 := r_q1.base hs
  replace hb := hb.trans (hB3.mono hs)
  replace hs := Nat.le_trans hs (hB3.size)
  refine L_as (L_nil (thenQ_normal (W_seq (W_region (L_as (L_nil (thenQ_normal (W_seq (W_region (L_as (L_nil (thenQ_normal (W_seq (W_seq (W_region (L_as (L_nil (thenQ_normal (W_block ?_)))))))))))))))))))
  refine W_loop (fun m s0 w0 => ∃ (i : Nat) (acc : List (Int × List UInt8)) (op : Bool) (v_4 : Value), (m = (spotsFrom s 0).length - i) ∧ (s0.ds = []) ∧ (s0.f 0 = (S s)) ∧ (s0.f 2 = (.slice none 0 0)) ∧ (s0.f 3 = q1) ∧ (s0.f 4 = v_4) ∧ (s0.f 5 = (.bool op)) ∧ (s0.f 6 = (.int .i64 ((i : Nat) : Int))) ∧ (Row w0 w.heap.size 62 4 encSpot q1 (spotsFrom s 0)) ∧ (Row w0 w.heap.size 30 2 encWord v_4 acc) ∧ (Below w.heap.size w w0) ∧ (w.heap.size ≤ w0.heap.size) ∧ (i ≤ (spotsFrom s 0).length) ∧ (acc.length ≤ i) ∧ (((spotsFrom s 0).drop i).foldl (wstep s) (acc, op) = (spotsFrom s 0).foldl (wstep s) ([], false)) ∧ (op = true → 0 < acc.length) ∧ (∀ e ∈ acc, e.2.length ≤ 4 * i)) _ ⟨0, [], false, (.slice none 0 0), rfl, by kernel_rfl, by kernel_rfl, by kernel_rfl, by kernel_rfl, by kernel_rfl, by kernel_rfl, by kernel_rfl, r_q1, Row.nil _ _ _ _ _, hb, hs, by omega, Nat.le_refl _, rfl, by simp, by simp⟩ ?_
  rintro m5 s6 w7 ⟨i, acc, op, v_4, hm, hds, f_0, f_2, f_3, f_4, f_5, f_6, r_q1, r_4, hb, hs, i1, i2, i3, i4, i5⟩
  refine W_set 0 _ f_0 (W_set 2 _ f_2 (W_set 3 _ f_3 (W_set 4 _ f_4 (W_set 5 _ f_5 (W_set 6 _ f_6 ?_)))))
  clear f_0 f_2 f_3 f_4 f_5 f_6
  have hrl := spots_len s
  refine W_seq (W_seq (W_region (L_mv (L_mv (L_len 59 62 (spotsFrom s 0).length q1 rfl Try.underlying59 (r_q1.rd).len (by kernel_rfl) (L_cmp .i64 ((i : Nat) : Int) (((spotsFrom s 0).length : Nat) : Int) (i < (spotsFrom s 0).length) rfl (cmpN_lt i ((spotsFrom s 0).length)) (by kernel_rfl) (by kernel_rfl) ?_ ?_))))))
  · intro h8
    replace h8 : i < (spotsFrom s 0).length := by omega
    refine L_nil (thenQ_normal (W_true (by kernel_rfl) (W_skip (thenQ_normal (W_seq (W_block (W_seq (W_seq (W_region (L_mv (L_mv ?_)))))))))))
    obtain ⟨x9, hx10⟩ := get_some (spotsFrom s 0) i (by omega)
    have hz := (r_q1.rd).at (k := 4) (fun _ => rfl) hx10
    obtain ⟨g11, off12, hl13, hc14⟩ := hz
    have hsf := spots_fit hx10
    have hpl : (List.drop x9.1 (List.take (x9.1 + x9.2.1) s)).length ≤ x9.2.1 := piece_len s x9
    refine L_ixaddr (k := .i64) q1 i _ g11 off12 el59 hl13 (by omega) (by kernel_rfl) (by kernel_rfl) (L_run (.pointer (some ⟨g11, ((off12 + i * 4) + 2), none⟩)) (by kernel_rfl) (by kernel_rfl) (L_load g11 ((off12 + i * 4) + 2) (.int .i32 x9.2.2.1) (by kernel_rfl) (by kernel_rfl) (hc14 2 _ rfl) (L_call 14 [(.int .i32 x9.2.2.1)] (by kernel_rfl) (by kernel_rfl) (c_furrowref05_Blank x9.2.2.1 _ ) ?_)))
    rintro _ w15 ⟨rfl, hB16⟩
    replace hb := hb.trans (hB16.mono hs)
    replace hs := Nat.le_trans hs (hB16.size)
    replace r_q1 := r_q1.below hB16
    replace r_4 := r_4.below hB16
    refine put_split (blankB x9.2.2.1) ?_ ?_
    · intro h18
      refine L_nil (thenQ_normal (W_true (by kernel_rfl) (W_seq (W_region (L_as (L_nil (thenQ_normal (W_exit (thenQ_exit (blkQ_exit (thenQ_normal (W_region (L_mv (L_addN i 1 (by omega) (by kernel_rfl) (by kernel_rfl) (L_as (L_nil ?_))))))))))))))))
      refine thenQ_normal ⟨_, ?_, (i + 1), acc, false, v_4, rfl, hds, by kernel_rfl, by kernel_rfl, by kernel_rfl, by kernel_rfl, by kernel_rfl, by kernel_rfl, r_q1, r_4, hb, hs, ?_, ?_, ?_, ?_, ?_⟩
      · omega
      · omega
      · (try simp only [List.length_append, List.length_cons, List.length_nil, List.length_set]); omega
      · first | (rw [← i3, drop_some (k := i) (by assumption), List.foldl_cons, wstep_blank (by assumption)]; done) | (rw [← i3, drop_some (k := i) (by assumption), List.foldl_cons, wstep_more (by assumption) (by assumption) (by assumption)]; rfl) | (rw [← i3, drop_some (k := i) (by assumption), List.foldl_cons, wstep_new (by assumption) (by assumption)]; rfl)
      · simp; try omega
      · first | exact old_le i5 | (refine set_le i5 ?_; dsimp only; rw [List.length_append]; omega) | (refine app_le i5 ?_; dsimp only; omega)
    · intro h19
      refine L_nil (thenQ_normal (W_false (by kernel_rfl) (W_skip (thenQ_normal (W_seq (W_quiet (by kernel_rfl) (by kernel_rfl) (Lq_mv (Lq_mv (Lq_mv ?_)))))))))
      have hz := (r_q1.rd).at (k := 4) (fun _ => rfl) hx10
      obtain ⟨g22, off23, hl24, hc25⟩ := hz
      refine Lq_ixaddr (k := .i64) q1 i _ g22 off23 el59 hl24 (by omega) (by kernel_rfl) (by kernel_rfl) (Lq_run (.pointer (some ⟨g22, (off23 + i * 4), none⟩)) (fun _ => by kernel_rfl) (Lq_load g22 (off23 + i * 4) (.int .i64 ((x9.1 : Nat) : Int)) (by kernel_rfl) (fun _ => by kernel_rfl) (hc25 0 _ rfl) (Lq_mv (Lq_mv ?_))))
      have hz := (r_q1.rd).at (k := 4) (fun _ => rfl) hx10
      obtain ⟨g28, off29, hl30, hc31⟩ := hz
      refine Lq_ixaddr (k := .i64) q1 i _ g28 off29 el59 hl30 (by omega) (by kernel_rfl) (by kernel_rfl) (Lq_run (.pointer (some ⟨g28, (off29 + i * 4), none⟩)) (fun _ => by kernel_rfl) (Lq_load g28 (off29 + i * 4) (.int .i64 ((x9.1 : Nat) : Int)) (by kernel_rfl) (fun _ => by kernel_rfl) (hc31 0 _ rfl) (Lq_mv (Lq_mv ?_))))
      have hz := (r_q1.rd).at (k := 4) (fun _ => rfl) hx10
      obtain ⟨g34, off35, hl36, hc37⟩ := hz
      refine Lq_ixaddr (k := .i64) q1 i _ g34 off35 el59 hl36 (by omega) (by kernel_rfl) (by kernel_rfl) (Lq_run (.pointer (some ⟨g34, ((off35 + i * 4) + 1), none⟩)) (fun _ => by kernel_rfl) (Lq_load g34 ((off35 + i * 4) + 1) (.int .i64 ((x9.2.1 : Nat) : Int)) (by kernel_rfl) (fun _ => by kernel_rfl) (hc37 1 _ rfl) (Lq_addN x9.1 x9.2.1 (by omega) (by kernel_rfl) (by kernel_rfl) (Lq_sslice s x9.1 (x9.1 + x9.2.1) Try.underlying9 (by kernel_rfl) ⟨.i64, by kernel_rfl⟩ ⟨.i64, by kernel_rfl⟩ (by omega) (by omega) (Lq_as (Lq_nil ?_))))))
      intro w38 hB39
      replace hb := hb.trans (hB39.mono hs)
      replace hs := Nat.le_trans hs (hB39.size)
      replace r_q1 := r_q1.below hB39
      replace r_4 := r_4.below hB39
      refine thenQ_normal (W_seq (W_seq (W_region (L_mv (L_nil (thenQ_normal ?_))))))
      rcases Bool.eq_false_or_eq_true op with hc40 | hc40
      · skip
        have h4 := i4 hc40
        refine W_ifT hc40 (by kernel_rfl) (W_region (L_mv (L_mv (L_len 24 30 (acc).length v_4 rfl Try.underlying24 (r_4.rd).len (by kernel_rfl) (L_subN ((acc).length) 1 (by omega) (by omega) (by kernel_rfl) (by kernel_rfl) (L_mv (L_mv (L_len 24 30 (acc).length v_4 rfl Try.underlying24 (r_4.rd).len (by kernel_rfl) (L_subN ((acc).length) 1 (by omega) (by omega) (by kernel_rfl) (by kernel_rfl) ?_)))))))))
        obtain ⟨x41, hx42⟩ := get_some acc ((acc).length - 1) (by omega)
        have hz := (r_4.rd).at (k := 2) (fun _ => rfl) hx42
        obtain ⟨g43, off44, hl45, hc46⟩ := hz
        have h5 := i5 _ (List.mem_of_getElem? hx42)
        refine L_ixaddr (k := .i64) v_4 ((acc).length - 1) _ g43 off44 el24 hl45 (by omega) (by kernel_rfl) (by kernel_rfl) (L_run (.pointer (some ⟨g43, ((off44 + ((acc).length - 1) * 2) + 1), none⟩)) (by kernel_rfl) (by kernel_rfl) (L_load g43 ((off44 + ((acc).length - 1) * 2) + 1) (S x41.2) (by kernel_rfl) (by kernel_rfl) (hc46 1 _ rfl) (L_mv (L_sadd x41.2 (List.drop x9.1 (List.take (x9.1 + x9.2.1) s)) (by first | omega | (simp only [List.length_append, List.length_cons, List.length_nil]; omega)) (by kernel_rfl) (by kernel_rfl) ?_))))
        have hz := (r_4.rd).at (k := 2) (fun _ => rfl) hx42
        obtain ⟨g49, off50, hl51, hc52⟩ := hz
        refine L_ixaddr (k := .i64) v_4 ((acc).length - 1) _ g49 off50 el24 hl51 (by omega) (by kernel_rfl) (by kernel_rfl) (L_run (.pointer (some ⟨g49, ((off50 + ((acc).length - 1) * 2) + 1), none⟩)) (by kernel_rfl) (by kernel_rfl) (L_storeRow ((acc).length - 1) 1 g49 off50 x41 (x41.1, (x41.2 ++ (List.drop x9.1 (List.take (x9.1 + x9.2.1) s)))) (S (x41.2 ++ (List.drop x9.1 (List.take (x9.1 + x9.2.1) s)))) r_4 (fun _ => rfl) hx42 hl51 (by kernel_rfl) (by kernel_rfl) rfl (by kernel_rfl) (by kernel_rfl) rfl ?_))
        intro w53 hr54 hg55
        replace hb := hb.grown hg55 hs (fun k hk => (World.ownsRow.lt r_4 k hk).1)
        replace hs := Nat.le_trans hs (hg55.size)
        have n_r_q1 := r_q1.grown hg55 (r_q1.apart r_4 (by kernel_rfl))
        replace r_q1 := n_r_q1; clear n_r_q1
        replace r_4 := hr54
        refine L_nil (thenQ_normal (W_region (L_as (L_nil (blkQ_normal (thenQ_normal (W_region (L_mv (L_addN i 1 (by omega) (by kernel_rfl) (by kernel_rfl) (L_as (L_nil ?_)))))))))))
        refine thenQ_normal ⟨_, ?_, (i + 1), (List.set acc ((acc).length - 1) (x41.1, (x41.2 ++ (List.drop x9.1 (List.take (x9.1 + x9.2.1) s))))), true, v_4, rfl, hds, by kernel_rfl, by kernel_rfl, by kernel_rfl, by kernel_rfl, by kernel_rfl, by kernel_rfl, r_q1, r_4, hb, hs, ?_, ?_, ?_, ?_, ?_⟩
        · omega
        · omega
        · (try simp only [List.length_append, List.length_cons, List.length_nil, List.length_set]); omega
        · first | (rw [← i3, drop_some (k := i) (by assumption), List.foldl_cons, wstep_blank (by assumption)]; done) | (rw [← i3, drop_some (k := i) (by assumption), List.foldl_cons, wstep_more (by assumption) (by assumption) (by assumption)]; rfl) | (rw [← i3, drop_some (k := i) (by assumption), List.foldl_cons, wstep_new (by assumption) (by assumption)]; rfl)
        · simp; try omega
        · first | exact old_le i5 | (refine set_le i5 ?_; dsimp only; rw [List.length_append]; omega) | (refine app_le i5 ?_; dsimp only; omega)
      · skip
        refine W_ifF hc40 (by kernel_rfl) (W_region (L_mv (L_mv (L_mv ?_))))
        have hz := (r_q1.rd).at (k := 4) (fun _ => rfl) hx10
        obtain ⟨g58, off59, hl60, hc61⟩ := hz
        refine L_ixaddr (k := .i64) q1 i _ g58 off59 el59 hl60 (by omega) (by kernel_rfl) (by kernel_rfl) (L_run (.pointer (some ⟨g58, (off59 + i * 4), none⟩)) (by kernel_rfl) (by kernel_rfl) (L_load g58 (off59 + i * 4) (.int .i64 ((x9.1 : Nat) : Int)) (by kernel_rfl) (by kernel_rfl) (hc61 0 _ rfl) (L_mv (L_run (Value.agg #[(.int .i64 ((x9.1 : Nat) : Int)), (S (List.drop x9.1 (List.take (x9.1 + x9.2.1) s)))]) (by kernel_rfl) (by kernel_rfl) (L_app el24 w.heap.size v_4 acc (((x9.1 : Nat) : Int), (List.drop x9.1 (List.take (x9.1 + x9.2.1) s))) hs r_4 (by omega) (by kernel_rfl) rfl rfl (by kernel_rfl) rfl (by kernel_rfl) (by kernel_rfl) ?_)))))
        intro v62 w63 hr64 hg65 how66
        replace hb := hb.grown hg65 hs (fun k hk => (World.ownsRow.lt r_4 k hk).1)
        replace hs := Nat.le_trans hs (hg65.size)
        have n_r_q1 := r_q1.grown hg65 (r_q1.apart r_4 (by kernel_rfl))
        replace r_q1 := n_r_q1; clear n_r_q1
        replace r_4 := hr64
        refine L_as (L_nil (thenQ_normal (W_region (L_as (L_nil (blkQ_normal (thenQ_normal (W_region (L_mv (L_addN i 1 (by omega) (by kernel_rfl) (by kernel_rfl) (L_as (L_nil ?_))))))))))))
        refine thenQ_normal ⟨_, ?_, (i + 1), (acc ++ [(((x9.1 : Nat) : Int), (List.drop x9.1 (List.take (x9.1 + x9.2.1) s)))]), true, v62, rfl, hds, by kernel_rfl, by kernel_rfl, by kernel_rfl, by kernel_rfl, by kernel_rfl, by kernel_rfl, r_q1, r_4, hb, hs, ?_, ?_, ?_, ?_, ?_⟩
        · omega
        · omega
        · (try simp only [List.length_append, List.length_cons, List.length_nil, List.length_set]); omega
        · first | (rw [← i3, drop_some (k := i) (by assumption), List.foldl_cons, wstep_blank (by assumption)]; done) | (rw [← i3, drop_some (k := i) (by assumption), List.foldl_cons, wstep_more (by assumption) (by assumption) (by assumption)]; rfl) | (rw [← i3, drop_some (k := i) (by assumption), List.foldl_cons, wstep_new (by assumption) (by assumption)]; rfl)
        · simp; try omega
        · first | exact old_le i5 | (refine set_le i5 ?_; dsimp only; rw [List.length_append]; omega) | (refine app_le i5 ?_; dsimp only; omega)
  · intro h67
    replace h67 : (spotsFrom s 0).length ≤ i := by omega
    refine L_nil (thenQ_normal (W_false (by kernel_rfl) (W_exit (thenQ_exit (thenQ_exit (blkQ_exit (thenQ_normal (W_seq (W_region (L_mv (L_as (L_nil (thenQ_normal (W_ret ?_))))))))))))))
    refine end_ret [.tmp 2] [v_4] rfl hds ⟨by kernel_rfl, trivial⟩ ?_
    have e0 : acc = wordsOf s := by rw [← rwords_eq, ← i3, List.drop_eq_nil_of_le (by omega)]; rfl
    exact ⟨v_4, rfl, r_4.cast e0, hb⟩

set_option maxHeartbeats 4000000 in
set_option maxRecDepth 100000 in
theorem c_furrowlaw05_WordsEach (s : List UInt8) (most : Int) (w : World) (hs : s.length ≤ 1073741824) :
    Calls Try.prog 4 #[(S s), (.int .i64 most)] w (Ret fun v w' => v = (.bool true) ∧ Below w.heap.size w w') := by
  refine enterM (args := [(S s), (.int .i64 most)]) Try.func4 rfl (by kernel_rfl : _ = 72) (by kernel_rfl) ?_
  have hb := Below.refl w.heap.size w
  have hs : w.heap.size ≤ w.heap.size := Nat.le_refl _
  refine W_seq (W_region (L_new (fun b => .pointer (some ⟨b, 0, none⟩)) (.cells [(.int .i64 most)].toArray 3 (0, 0)) (by kernel_rfl) (by kernel_rfl) ?_))
  intro b1 w2 hN3
  have g_x3 : w.heap.size ≤ b1 := by rw [hN3.num]; exact hs
  replace hb := hb.trans (hN3.below.mono hs)
  replace hs := Nat.le_trans hs (hN3.below.size)
  have o_x3 := hN3.here
  refine L_new (fun b => .pointer (some ⟨b, 0, none⟩)) (.cells [(.bool false)].toArray 4 (0, 0)) (by kernel_rfl) (by kernel_rfl) ?_
  intro b4 w5 hN6
  have ne_x3_x4 : b1 ≠ b4 := by have := obj_lt o_x3; have := hN6.num; omega
  have ne_x4_x3 := ne_x3_x4.symm
  have g_x4 : w.heap.size ≤ b4 := by rw [hN6.num]; exact hs
  replace hb := hb.trans (hN6.below.mono hs)
  replace hs := Nat.le_trans hs (hN6.below.size)
  replace o_x3 := obj_below o_x3 hN6.below
  have o_x4 := hN6.here
  refine L_nil (thenQ_normal (W_seq (W_seq (W_region (L_call 15 [] (by kernel_rfl) (by kernel_rfl) (c_furrowlaw05_awake  _ ) ?_)))))
  rintro _ w7 ⟨rfl, hB8⟩
  replace hb := hb.trans (hB8.mono hs)
  replace hs := Nat.le_trans hs (hB8.size)
  replace o_x3 := obj_below o_x3 hB8
  replace o_x4 := obj_below o_x4 hB8
  refine L_not true (by kernel_rfl) (L_nil (thenQ_normal (W_false (by kernel_rfl) (W_skip (thenQ_normal (W_seq (W_region (L_mv (L_call 16 [(S s)] (by kernel_rfl) (by kernel_rfl) (c_furrowref05_Words s _ (by omega)) ?_)))))))))
  rintro q10 w11 ⟨_, rfl, r_q10, hB12⟩
  replace r_q10 := r_q10.base hs
  replace hb := hb.trans (hB12.mono hs)
  replace hs := Nat.le_trans hs (hB12.size)
  replace o_x3 := obj_below o_x3 hB12
  replace o_x4 := obj_below o_x4 hB12
  refine L_new (fun b => .pointer (some ⟨b, 0, none⟩)) (.cells [(.slice none 0 0)].toArray 24 (0, 0)) (by kernel_rfl) (by kernel_rfl) ?_
  intro b14 w15 hN16
  have ne_x3_x5 : b1 ≠ b14 := by have := obj_lt o_x3; have := hN16.num; omega
  have ne_x5_x3 := ne_x3_x5.symm
  have ne_x4_x5 : b4 ≠ b14 := by have := obj_lt o_x4; have := hN16.num; omega
  have ne_x5_x4 := ne_x4_x5.symm
  have g_x5 : w.heap.size ≤ b14 := by rw [hN16.num]; exact hs
  replace hb := hb.trans (hN16.below.mono hs)
  replace hs := Nat.le_trans hs (hN16.below.size)
  replace o_x3 := obj_below o_x3 hN16.below
  replace o_x4 := obj_below o_x4 hN16.below
  replace r_q10 := r_q10.below hN16.below
  have o_x5 := hN16.here
  refine L_store b14 0 q10 [(.slice none 0 0)] [q10] 24 (by kernel_rfl) (by kernel_rfl) r_q10.one (by kernel_rfl) o_x5 (by simp) rfl ?_
  intro w17 hW18
  replace hb := hb.trans (hW18.below g_x5)
  replace hs := Nat.le_trans hs (Nat.le_of_eq hW18.size.symm)
  have n_o_x3 := obj_wrote o_x3 hW18 (obj_ne o_x3 o_x5 (by simp))
  have n_o_x4 := obj_wrote o_x4 hW18 (obj_ne o_x4 o_x5 (by simp))
  have n_r_q10 := r_q10.wrote hW18 (r_q10.ne o_x5 (by simp))
  replace o_x3 := n_o_x3; clear n_o_x3
  replace o_x4 := n_o_x4; clear n_o_x4
  replace r_q10 := n_r_q10; clear n_r_q10
  replace o_x5 := hW18.here
  refine L_nil (thenQ_normal (W_seq (W_region (L_mv (L_call 17 [(S s)] (by kernel_rfl) (by kernel_rfl) (c_words_Each s _ ) ?_)))))
  rintro _ w19 ⟨cb22, rfl, o_cb22, g_cb22, hB20⟩
  have ne_x3_cb22 : b1 ≠ cb22 := by have := obj_lt o_x3; omega
  have ne_cb22_x3 := ne_x3_cb22.symm
  have ne_x4_cb22 : b4 ≠ cb22 := by have := obj_lt o_x4; omega
  have ne_cb22_x4 := ne_x4_cb22.symm
  have ne_x5_cb22 : b14 ≠ cb22 := by have := obj_lt o_x5; omega
  have ne_cb22_x5 := ne_x5_cb22.symm
  replace g_cb22 := Nat.le_trans hs g_cb22
  replace hb := hb.trans (hB20.mono hs)
  replace hs := Nat.le_trans hs (hB20.size)
  replace o_x3 := obj_below o_x3 hB20
  replace o_x4 := obj_below o_x4 hB20
  replace o_x5 := obj_below o_x5 hB20
  replace r_q10 := r_q10.below hB20
  refine L_as (L_nil (thenQ_normal (W_seq (W_seq (W_region (L_mv (L_run (.bool false) (by kernel_rfl) (by kernel_rfl) (L_nil (thenQ_normal (W_false (by kernel_rfl) (W_skip (thenQ_normal (W_seq (W_seq (W_region (L_new (fun b => .pointer (some ⟨b, 0, none⟩)) (.cells [(.int .i64 0)].toArray 3 (0, 0)) (by kernel_rfl) (by kernel_rfl) ?_))))))))))))))))
  intro b23 w24 hN25
  have ne_x3_x7 : b1 ≠ b23 := by have := obj_lt o_x3; have := hN25.num; omega
  have ne_x7_x3 := ne_x3_x7.symm
  have ne_x4_x7 : b4 ≠ b23 := by have := obj_lt o_x4; have := hN25.num; omega
  have ne_x7_x4 := ne_x4_x7.symm
  have ne_x5_x7 : b14 ≠ b23 := by have := obj_lt o_x5; have := hN25.num; omega
  have ne_x7_x5 := ne_x5_x7.symm
  have ne_cb22_x7 : cb22 ≠ b23 := by have := obj_lt o_cb22; have := hN25.num; omega
  have ne_x7_cb22 := ne_cb22_x7.symm
  have g_x7 : w.heap.size ≤ b23 := by rw [hN25.num]; exact hs
  replace hb := hb.trans (hN25.below.mono hs)
  replace hs := Nat.le_trans hs (hN25.below.size)
  replace o_x3 := obj_below o_x3 hN25.below
  replace o_x4 := obj_below o_x4 hN25.below
  replace o_x5 := obj_below o_x5 hN25.below
  replace o_cb22 := obj_below o_cb22 hN25.below
  replace r_q10 := r_q10.below hN25.below
  have o_x7 := hN25.here
  refine L_store b23 0 (.int .i64 0) [(.int .i64 0)] [(.int .i64 0)] 3 (by kernel_rfl) (by kernel_rfl) rfl (by kernel_rfl) o_x7 (by simp) rfl ?_
  intro w26 hW27
  replace hb := hb.trans (hW27.below g_x7)
  replace hs := Nat.le_trans hs (Nat.le_of_eq hW27.size.symm)
  have n_o_x3 := obj_wrote o_x3 hW27 ne_x3_x7
  have n_o_x4 := obj_wrote o_x4 hW27 (obj_ne o_x4 o_x7 (by simp))
  have n_o_x5 := obj_wrote o_x5 hW27 (obj_ne o_x5 o_x7 (by simp))
  have n_o_cb22 := obj_wrote o_cb22 hW27 (obj_ne o_cb22 o_x7 (by simp))
  have n_r_q10 := r_q10.wrote hW27 (r_q10.ne o_x7 (by simp))
  replace o_x3 := n_o_x3; clear n_o_x3
  replace o_x4 := n_o_x4; clear n_o_x4
  replace o_x5 := n_o_x5; clear n_o_x5
  replace o_cb22 := n_o_cb22; clear n_o_cb22
  replace r_q10 := n_r_q10; clear n_r_q10
  replace o_x7 := hW27.here
  refine L_nil (thenQ_normal (W_block (W_unroll 4 (W_seq (W_seq (W_region (L_load b23 0 (.int .i64 0) (by kernel_rfl) (by kernel_rfl) (cell_obj o_x7 rfl) (L_run (.bool true) (by kernel_rfl) (by kernel_rfl) (L_nil (thenQ_normal (W_true (by kernel_rfl) (W_skip (thenQ_normal (W_seq (W_block (W_seq (W_region (L_new (fun b => .pointer (some ⟨b, 0, none⟩)) (.cells [(.int .i64 0)].toArray 3 (0, 0)) (by kernel_rfl) (by kernel_rfl) ?_))))))))))))))))))
  intro b28 w29 hN30
  have ne_x3_x8 : b1 ≠ b28 := by have := obj_lt o_x3; have := hN30.num; omega
  have ne_x8_x3 := ne_x3_x8.symm
  have ne_x4_x8 : b4 ≠ b28 := by have := obj_lt o_x4; have := hN30.num; omega
  have ne_x8_x4 := ne_x4_x8.symm
  have ne_x5_x8 : b14 ≠ b28 := by have := obj_lt o_x5; have := hN30.num; omega
  have ne_x8_x5 := ne_x5_x8.symm
  have ne_cb22_x8 : cb22 ≠ b28 := by have := obj_lt o_cb22; have := hN30.num; omega
  have ne_x8_cb22 := ne_cb22_x8.symm
  have ne_x7_x8 : b23 ≠ b28 := by have := obj_lt o_x7; have := hN30.num; omega
  have ne_x8_x7 := ne_x7_x8.symm
  have g_x8 : w.heap.size ≤ b28 := by rw [hN30.num]; exact hs
  replace hb := hb.trans (hN30.below.mono hs)
  replace hs := Nat.le_trans hs (hN30.below.size)
  replace o_x3 := obj_below o_x3 hN30.below
  replace o_x4 := obj_below o_x4 hN30.below
  replace o_x5 := obj_below o_x5 hN30.below
  replace o_cb22 := obj_below o_cb22 hN30.below
  replace o_x7 := obj_below o_x7 hN30.below
  replace r_q10 := r_q10.below hN30.below
  have o_x8 := hN30.here
  refine L_store b28 0 (.int .i64 0) [(.int .i64 0)] [(.int .i64 0)] 3 (by kernel_rfl) (by kernel_rfl) rfl (by kernel_rfl) o_x8 (by simp) rfl ?_
  intro w31 hW32
  replace hb := hb.trans (hW32.below g_x8)
  replace hs := Nat.le_trans hs (Nat.le_of_eq hW32.size.symm)
  have n_o_x3 := obj_wrote o_x3 hW32 ne_x3_x8
  have n_o_x4 := obj_wrote o_x4 hW32 (obj_ne o_x4 o_x8 (by simp))
  have n_o_x5 := obj_wrote o_x5 hW32 (obj_ne o_x5 o_x8 (by simp))
  have n_o_cb22 := obj_wrote o_cb22 hW32 (obj_ne o_cb22 o_x8 (by simp))
  have n_o_x7 := obj_wrote o_x7 hW32 ne_x7_x8
  have n_r_q10 := r_q10.wrote hW32 (r_q10.ne o_x8 (by simp))
  replace o_x3 := n_o_x3; clear n_o_x3
  replace o_x4 := n_o_x4; clear n_o_x4
  replace o_x5 := n_o_x5; clear n_o_x5
  replace o_cb22 := n_o_cb22; clear n_o_cb22
  replace o_x7 := n_o_x7; clear n_o_x7
  replace r_q10 := n_r_q10; clear n_r_q10
  replace o_x8 := hW32.here
  refine L_nil (thenQ_normal (W_seq (W_seq (W_region (L_mv (L_nil (thenQ_normal (W_block ?_))))))))
  have lt_x3_0 : b1 < w31.heap.size := obj_lt o_x3
  have lt_x4_0 : b4 < w31.heap.size := obj_lt o_x4
  have lt_x5_0 : b14 < w31.heap.size := obj_lt o_x5
  have lt_cb22_0 : cb22 < w31.heap.size := obj_lt o_cb22
  have lt_x7_0 : b23 < w31.heap.size := obj_lt o_x7
  have lt_x8_0 : b28 < w31.heap.size := obj_lt o_x8
  have hs_0 := hs
  have hb_0 := hb
  refine W_range 40 [(.pointer (some ⟨cb22, 0, none⟩))] (wordsOf s) (by kernel_rfl) (fun _ _ => rfl) (it_words_Each_1 cb22 s (by omega)) o_cb22 ((fun D A B h hc hd => obj_ch h hc (fun h => Nat.not_lt.2 (hd _ h) lt_cb22_0))) (by intro x; rfl) (fun K pre A => ∃ (W : List (Int × List UInt8)) (n : Nat) (v_x5_0 : Value), (A.heap[b1]? = some (.cells [(.int .i64 most)].toArray 3 (0, 0))) ∧ (A.heap[b4]? = some (.cells [(.bool false)].toArray 4 (0, 0))) ∧ (A.heap[b14]? = some (.cells [v_x5_0].toArray 24 (0, 0))) ∧ (A.heap[cb22]? = some (.cells [(S s)].toArray 9 (0, 0))) ∧ (A.heap[b23]? = some (.cells [(.int .i64 0)].toArray 3 (0, 0))) ∧ (A.heap[b28]? = some (.cells [(.int .i64 ((n : Nat) : Int))].toArray 3 (0, 0))) ∧ (Row A w.heap.size 30 2 encWord v_x5_0 W) ∧ (∀ g, Value.ownBlock v_x5_0 = some g → ¬ Iv w31.heap.size K g) ∧ (Below w.heap.size w A) ∧ (W = wordsOf s) ∧ (n = pre.length)) (fun K c pre A => False) ?_ ?_ ?_ ?_ ?_ ?_
  · intro A hA
    exact ⟨(wordsOf s), 0, q10, obj_below o_x3 hA, obj_below o_x4 hA, obj_below o_x5 hA, obj_below o_cb22 hA, obj_below o_x7 hA, obj_below o_x8 hA, r_q10.below hA, nr_old r_q10 _, hb.trans (hA.mono hs), by rfl, by rfl⟩
  · rintro K pre A B ⟨W, n, v_x5_0, o_x3, o_x4, o_x5, o_cb22, o_x7, o_x8, r_x5_0, nr_r_x5_0, hb, pw, pn⟩ hc
    exact ⟨W, n, v_x5_0, obj_ch o_x3 hc (fun h => Nat.not_lt.2 h.1 lt_x3_0), obj_ch o_x4 hc (fun h => Nat.not_lt.2 h.1 lt_x4_0), obj_ch o_x5 hc (fun h => Nat.not_lt.2 h.1 lt_x5_0), obj_ch o_cb22 hc (fun h => Nat.not_lt.2 h.1 lt_cb22_0), obj_ch o_x7 hc (fun h => Nat.not_lt.2 h.1 lt_x7_0), obj_ch o_x8 hc (fun h => Nat.not_lt.2 h.1 lt_x8_0), r_x5_0.ch hc nr_r_x5_0, nr_r_x5_0, hc.below hb hb.size (fun k h => Nat.le_trans hs_0 h.1), pw, pn⟩
  · intro K c _ A B h hc; exact h.elim
  · intro l K pre x A hi hN hK0 hK hpre
    obtain ⟨W, n, v_x5_0, o_x3, o_x4, o_x5, o_cb22, o_x7, o_x8, r_x5_0, nr_r_x5_0, hb, pw, pn⟩ := hi
    have hs := hb.size
    have hk := Kp.refl (w31.heap.size) K A
    have nv_x3 : ¬ Iv (w31.heap.size) K b1 := fun h => Nat.not_lt.2 h.1 lt_x3_0
    have nv_x4 : ¬ Iv (w31.heap.size) K b4 := fun h => Nat.not_lt.2 h.1 lt_x4_0
    have nv_x5 : ¬ Iv (w31.heap.size) K b14 := fun h => Nat.not_lt.2 h.1 lt_x5_0
    have nv_cb22 : ¬ Iv (w31.heap.size) K cb22 := fun h => Nat.not_lt.2 h.1 lt_cb22_0
    have nv_x7 : ¬ Iv (w31.heap.size) K b23 := fun h => Nat.not_lt.2 h.1 lt_x7_0
    have nv_x8 : ¬ Iv (w31.heap.size) K b28 := fun h => Nat.not_lt.2 h.1 lt_x8_0
    replace o_cb22 := hN
    have hat := pre_at hpre
    have hlt := pre_lt hpre
    have hwl := words_le s
    have hWl : W.length = (wordsOf s).length := by rw [pw]
    refine W_seq (W_region (L_as (L_nil (thenQ_normal (W_region (L_as (L_nil ?_)))))))
    refine thenQ_normal ⟨hk, ?_⟩
    intro w33 hc34
    replace o_x3 := obj_ch o_x3 hc34 nv_x3
    replace o_x4 := obj_ch o_x4 hc34 nv_x4
    replace o_x5 := obj_ch o_x5 hc34 nv_x5
    replace o_cb22 := obj_ch o_cb22 hc34 nv_cb22
    replace o_x7 := obj_ch o_x7 hc34 nv_x7
    replace o_x8 := obj_ch o_x8 hc34 nv_x8
    replace r_x5_0 := r_x5_0.ch hc34 nr_r_x5_0
    replace hb := hc34.below hb hs (fun k h => Nat.le_trans hs_0 h.1)
    replace hs := hb.size
    replace hK := Nat.le_trans hK hc34.size
    replace hk := Kp.refl (w31.heap.size) K w33
    refine W_block (W_seq (W_seq (W_region (L_load b28 0 (.int .i64 ((n : Nat) : Int)) (by kernel_rfl) (by kernel_rfl) (cell_obj o_x8 rfl) (L_load b14 0 v_x5_0 (by kernel_rfl) (by kernel_rfl) (cell_obj o_x5 rfl) (L_len 24 30 (W).length v_x5_0 rfl Try.underlying24 (r_x5_0.rd).len (by kernel_rfl) (L_cmp .i64 ((n : Nat) : Int) (((W).length : Nat) : Int) ((W).length ≤ n) rfl (cmpN_ge n ((W).length)) (by kernel_rfl) (by kernel_rfl) ?_ ?_)))))))
    · intro h35
      replace h35 : (W).length ≤ n := by omega
      exfalso; omega
    · intro h36
      replace h36 : n < (W).length := by omega
      refine L_mv (L_want (by kernel_rfl) (L_mv (L_want (by kernel_rfl) (L_load b14 0 v_x5_0 (by kernel_rfl) (by kernel_rfl) (cell_obj o_x5 rfl) (L_want (by kernel_rfl) (L_load b28 0 (.int .i64 ((n : Nat) : Int)) (by kernel_rfl) (by kernel_rfl) (cell_obj o_x8 rfl) (L_want (by kernel_rfl) ?_)))))))
      obtain ⟨x37, hx38⟩ := get_some W n (by omega)
      have hz := (r_x5_0.rd).at (k := 2) (fun _ => rfl) hx38
      obtain ⟨g39, off40, hl41, hc42⟩ := hz
      have he : x37 = x := by rw [pw, pn] at hx38; exact Option.some.inj (hx38.symm.trans hat)
      refine L_ixaddr (k := .i64) v_x5_0 n _ g39 off40 el24 hl41 (by omega) (by kernel_rfl) (by kernel_rfl) (L_want (by kernel_rfl) (L_run (.pointer (some ⟨g39, (off40 + n * 2), none⟩)) (by kernel_rfl) (by kernel_rfl) (L_want (by kernel_rfl) (L_load g39 (off40 + n * 2) (.int .i64 x37.1) (by kernel_rfl) (by kernel_rfl) (hc42 0 _ rfl) (L_want (by kernel_rfl) (L_cmp .i64 x.1 x37.1 (x.1 ≠ x37.1) rfl (cmp_ne x.1 x37.1) (by kernel_rfl) (by kernel_rfl) ?_ ?_))))))
      · intro h43
        replace h43 : x.1 ≠ x37.1 := by omega
        exfalso; exact h43 (by rw [he])
      · intro h44
        replace h44 : x.1 = x37.1 := by omega
        refine L_pickF (by kernel_rfl) (L_mv (L_want (by kernel_rfl) (L_mv (L_want (by kernel_rfl) (L_load b14 0 v_x5_0 (by kernel_rfl) (by kernel_rfl) (cell_obj o_x5 rfl) (L_want (by kernel_rfl) (L_load b28 0 (.int .i64 ((n : Nat) : Int)) (by kernel_rfl) (by kernel_rfl) (cell_obj o_x8 rfl) (L_want (by kernel_rfl) ?_))))))))
        have hz := (r_x5_0.rd).at (k := 2) (fun _ => rfl) hx38
        obtain ⟨g47, off48, hl49, hc50⟩ := hz
        refine L_ixaddr (k := .i64) v_x5_0 n _ g47 off48 el24 hl49 (by omega) (by kernel_rfl) (by kernel_rfl) (L_want (by kernel_rfl) (L_run (.pointer (some ⟨g47, ((off48 + n * 2) + 1), none⟩)) (by kernel_rfl) (by kernel_rfl) (L_want (by kernel_rfl) (L_load g47 ((off48 + n * 2) + 1) (S x37.2) (by kernel_rfl) (by kernel_rfl) (hc50 1 _ rfl) (L_want (by kernel_rfl) (L_sne x.2 x37.2 rfl (by kernel_rfl) (by kernel_rfl) ?_ ?_))))))
        · intro h51
          exfalso; exact h51 (by rw [he])
        · intro h52
          refine L_pickF (by kernel_rfl) (L_nil (thenQ_normal (W_false (by kernel_rfl) (W_skip (thenQ_normal (W_seq (W_region (L_load b28 0 (.int .i64 ((n : Nat) : Int)) (by kernel_rfl) (by kernel_rfl) (cell_obj o_x8 rfl) (L_addN n 1 (by omega) (by kernel_rfl) (by kernel_rfl) (L_store b28 0 (.int .i64 (((n + 1) : Nat) : Int)) [(.int .i64 ((n : Nat) : Int))] [(.int .i64 (((n + 1) : Nat) : Int))] 3 (by kernel_rfl) (by kernel_rfl) rfl (by kernel_rfl) o_x8 (by simp) rfl ?_))))))))))
          intro w53 hW54
          replace hb := hb.trans (hW54.below g_x8)
          replace hk := hk.ch (Ch.of_wrote hW54) hK (fun k e h => nv_x8 (e ▸ h))
          replace hK := Nat.le_trans hK (Nat.le_of_eq hW54.size.symm)
          replace hs := Nat.le_trans hs (Nat.le_of_eq hW54.size.symm)
          have n_o_x3 := obj_wrote o_x3 hW54 ne_x3_x8
          have n_o_x4 := obj_wrote o_x4 hW54 (obj_ne o_x4 o_x8 (by simp))
          have n_o_x5 := obj_wrote o_x5 hW54 (obj_ne o_x5 o_x8 (by simp))
          have n_o_cb22 := obj_wrote o_cb22 hW54 (obj_ne o_cb22 o_x8 (by simp))
          have n_o_x7 := obj_wrote o_x7 hW54 ne_x7_x8
          have n_r_x5_0 := r_x5_0.wrote hW54 (r_x5_0.ne o_x8 (by simp))
          replace o_x3 := n_o_x3; clear n_o_x3
          replace o_x4 := n_o_x4; clear n_o_x4
          replace o_x5 := n_o_x5; clear n_o_x5
          replace o_cb22 := n_o_cb22; clear n_o_cb22
          replace o_x7 := n_o_x7; clear n_o_x7
          replace r_x5_0 := n_r_x5_0; clear n_r_x5_0
          replace o_x8 := hW54.here
          refine L_nil (thenQ_normal (W_seq (W_region (L_load b23 0 (.int .i64 0) (by kernel_rfl) (by kernel_rfl) (cell_obj o_x7 rfl) (L_run (.bool false) (by kernel_rfl) (by kernel_rfl) (L_mv (L_skip (by kernel_rfl) (L_skip (by kernel_rfl) (L_skip (by kernel_rfl) (L_pickF (by kernel_rfl) (L_nil (thenQ_normal (W_false (by kernel_rfl) (W_skip (blkQ_normal ?_)))))))))))))))
          refine round_normal hk o_cb22 ⟨W, (n + 1), v_x5_0, o_x3, o_x4, o_x5, o_cb22, o_x7, o_x8, r_x5_0, nr_r_x5_0, hb, ?_, ?_⟩
          · exact pw
          · simp [pn]
  · intro K A hi hsz o_D0
    obtain ⟨W, n, v_x5_0, o_x3, o_x4, o_x5, o_cb22, o_x7, o_x8, r_x5_0, nr_r_x5_0, hb, pw, pn⟩ := hi
    have ne_x3_D0 : b1 ≠ w31.heap.size := Nat.ne_of_lt lt_x3_0
    have ne_D0_x3 := ne_x3_D0.symm
    have ne_x4_D0 : b4 ≠ w31.heap.size := Nat.ne_of_lt lt_x4_0
    have ne_D0_x4 := ne_x4_D0.symm
    have ne_x5_D0 : b14 ≠ w31.heap.size := Nat.ne_of_lt lt_x5_0
    have ne_D0_x5 := ne_x5_D0.symm
    have ne_cb22_D0 : cb22 ≠ w31.heap.size := Nat.ne_of_lt lt_cb22_0
    have ne_D0_cb22 := ne_cb22_D0.symm
    have ne_x7_D0 : b23 ≠ w31.heap.size := Nat.ne_of_lt lt_x7_0
    have ne_D0_x7 := ne_x7_D0.symm
    have ne_x8_D0 : b28 ≠ w31.heap.size := Nat.ne_of_lt lt_x8_0
    have ne_D0_x8 := ne_x8_D0.symm
    have hs : w.heap.size ≤ _ := hb.size
    refine blkQ_normal (thenQ_normal (W_seq (W_region (L_load b28 0 (.int .i64 ((n : Nat) : Int)) (by kernel_rfl) (by kernel_rfl) (cell_obj o_x8 rfl) (L_load b14 0 v_x5_0 (by kernel_rfl) (by kernel_rfl) (cell_obj o_x5 rfl) (L_len 24 30 (W).length v_x5_0 rfl Try.underlying24 (r_x5_0.rd).len (by kernel_rfl) (L_cmp .i64 ((n : Nat) : Int) (((W).length : Nat) : Int) (n ≠ (W).length) rfl (cmpN_ne n ((W).length)) (by kernel_rfl) (by kernel_rfl) ?_ ?_)))))))
    · intro h55
      replace h55 : n ≠ (W).length := by omega
      exfalso; rw [pw] at h55; omega
    · intro h56
      replace h56 : n = (W).length := by omega
      refine L_mv (L_skip (by kernel_rfl) (L_skip (by kernel_rfl) (L_skip (by kernel_rfl) (L_skip (by kernel_rfl) (L_skip (by kernel_rfl) (L_skip (by kernel_rfl) (L_skip (by kernel_rfl) (L_pickF (by kernel_rfl) (L_nil (thenQ_normal (W_false (by kernel_rfl) (W_skip (blkQ_normal (thenQ_normal (W_seq (W_seq (W_region (L_load b23 0 (.int .i64 0) (by kernel_rfl) (by kernel_rfl) (cell_obj o_x7 rfl) (L_nil (thenQ_normal (W_region (L_new (fun b => .pointer (some ⟨b, 0, none⟩)) (.cells [(.int .i64 0)].toArray 3 (0, 0)) (by kernel_rfl) (by kernel_rfl) ?_))))))))))))))))))))))
      intro b57 w58 hN59
      have ne_x3_x7 : b1 ≠ b57 := by have := obj_lt o_x3; have := hN59.num; omega
      have ne_x7_x3 := ne_x3_x7.symm
      have ne_x4_x7 : b4 ≠ b57 := by have := obj_lt o_x4; have := hN59.num; omega
      have ne_x7_x4 := ne_x4_x7.symm
      have ne_x5_x7 : b14 ≠ b57 := by have := obj_lt o_x5; have := hN59.num; omega
      have ne_x7_x5 := ne_x5_x7.symm
      have ne_cb22_x7 : cb22 ≠ b57 := by have := obj_lt o_cb22; have := hN59.num; omega
      have ne_x7_cb22 := ne_cb22_x7.symm
      have ne_x8_x7 : b28 ≠ b57 := by have := obj_lt o_x8; have := hN59.num; omega
      have ne_x7_x8 := ne_x8_x7.symm
      have ne_D0_x7 : w31.heap.size ≠ b57 := by have := obj_lt o_D0; have := hN59.num; omega
      have ne_x7_D0 := ne_D0_x7.symm
      have g_x7 : w.heap.size ≤ b57 := by rw [hN59.num]; exact hs
      replace hb := hb.trans (hN59.below.mono hs)
      replace hs := Nat.le_trans hs (hN59.below.size)
      replace o_x3 := obj_below o_x3 hN59.below
      replace o_x4 := obj_below o_x4 hN59.below
      replace o_x5 := obj_below o_x5 hN59.below
      replace o_cb22 := obj_below o_cb22 hN59.below
      replace o_x8 := obj_below o_x8 hN59.below
      replace o_D0 := obj_below o_D0 hN59.below
      replace r_x5_0 := r_x5_0.below hN59.below
      have o_x7 := hN59.here
      refine L_store b57 0 (.int .i64 0) [(.int .i64 0)] [(.int .i64 0)] 3 (by kernel_rfl) (by kernel_rfl) rfl (by kernel_rfl) o_x7 (by simp) rfl ?_
      intro w60 hW61
      replace hb := hb.trans (hW61.below g_x7)
      replace hs := Nat.le_trans hs (Nat.le_of_eq hW61.size.symm)
      have n_o_x3 := obj_wrote o_x3 hW61 ne_x3_x7
      have n_o_x4 := obj_wrote o_x4 hW61 (obj_ne o_x4 o_x7 (by simp))
      have n_o_x5 := obj_wrote o_x5 hW61 (obj_ne o_x5 o_x7 (by simp))
      have n_o_cb22 := obj_wrote o_cb22 hW61 (obj_ne o_cb22 o_x7 (by simp))
      have n_o_x8 := obj_wrote o_x8 hW61 ne_x8_x7
      have n_o_D0 := obj_wrote o_D0 hW61 (obj_ne o_D0 o_x7 (by simp))
      have n_r_x5_0 := r_x5_0.wrote hW61 (r_x5_0.ne o_x7 (by simp))
      replace o_x3 := n_o_x3; clear n_o_x3
      replace o_x4 := n_o_x4; clear n_o_x4
      replace o_x5 := n_o_x5; clear n_o_x5
      replace o_cb22 := n_o_cb22; clear n_o_cb22
      replace o_x8 := n_o_x8; clear n_o_x8
      replace o_D0 := n_o_D0; clear n_o_D0
      replace r_x5_0 := n_r_x5_0; clear n_r_x5_0
      replace o_x7 := hW61.here
      refine L_nil (thenQ_normal (W_region (L_load b57 0 (.int .i64 0) (by kernel_rfl) (by kernel_rfl) (cell_obj o_x7 rfl) (L_addN 0 1 (by omega) (by kernel_rfl) (by kernel_rfl) (L_store b57 0 (.int .i64 1) [(.int .i64 0)] [(.int .i64 1)] 3 (by kernel_rfl) (by kernel_rfl) rfl (by kernel_rfl) o_x7 (by simp) rfl ?_)))))
      intro w62 hW63
      replace hb := hb.trans (hW63.below g_x7)
      replace hs := Nat.le_trans hs (Nat.le_of_eq hW63.size.symm)
      have n_o_x3 := obj_wrote o_x3 hW63 ne_x3_x7
      have n_o_x4 := obj_wrote o_x4 hW63 (obj_ne o_x4 o_x7 (by simp))
      have n_o_x5 := obj_wrote o_x5 hW63 (obj_ne o_x5 o_x7 (by simp))
      have n_o_cb22 := obj_wrote o_cb22 hW63 (obj_ne o_cb22 o_x7 (by simp))
      have n_o_x8 := obj_wrote o_x8 hW63 ne_x8_x7
      have n_o_D0 := obj_wrote o_D0 hW63 (obj_ne o_D0 o_x7 (by simp))
      have n_r_x5_0 := r_x5_0.wrote hW63 (r_x5_0.ne o_x7 (by simp))
      replace o_x3 := n_o_x3; clear n_o_x3
      replace o_x4 := n_o_x4; clear n_o_x4
      replace o_x5 := n_o_x5; clear n_o_x5
      replace o_cb22 := n_o_cb22; clear n_o_cb22
      replace o_x8 := n_o_x8; clear n_o_x8
      replace o_D0 := n_o_D0; clear n_o_D0
      replace r_x5_0 := n_r_x5_0; clear n_r_x5_0
      replace o_x7 := hW63.here
      refine L_nil (thenQ_round (W_seq (W_seq (W_region (L_load b57 0 (.int .i64 1) (by kernel_rfl) (by kernel_rfl) (cell_obj o_x7 rfl) (L_run (.bool true) (by kernel_rfl) (by kernel_rfl) (L_nil (thenQ_normal (W_true (by kernel_rfl) (W_skip (thenQ_normal (W_seq (W_block (W_seq (W_region (L_new (fun b => .pointer (some ⟨b, 0, none⟩)) (.cells [(.int .i64 0)].toArray 3 (0, 0)) (by kernel_rfl) (by kernel_rfl) ?_))))))))))))))))
      intro b64 w65 hN66
      have ne_x3_x8 : b1 ≠ b64 := by have := obj_lt o_x3; have := hN66.num; omega
      have ne_x8_x3 := ne_x3_x8.symm
      have ne_x4_x8 : b4 ≠ b64 := by have := obj_lt o_x4; have := hN66.num; omega
      have ne_x8_x4 := ne_x4_x8.symm
      have ne_x5_x8 : b14 ≠ b64 := by have := obj_lt o_x5; have := hN66.num; omega
      have ne_x8_x5 := ne_x5_x8.symm
      have ne_cb22_x8 : cb22 ≠ b64 := by have := obj_lt o_cb22; have := hN66.num; omega
      have ne_x8_cb22 := ne_cb22_x8.symm
      have ne_D0_x8 : w31.heap.size ≠ b64 := by have := obj_lt o_D0; have := hN66.num; omega
      have ne_x8_D0 := ne_D0_x8.symm
      have ne_x7_x8 : b57 ≠ b64 := by have := obj_lt o_x7; have := hN66.num; omega
      have ne_x8_x7 := ne_x7_x8.symm
      have g_x8 : w.heap.size ≤ b64 := by rw [hN66.num]; exact hs
      replace hb := hb.trans (hN66.below.mono hs)
      replace hs := Nat.le_trans hs (hN66.below.size)
      replace o_x3 := obj_below o_x3 hN66.below
      replace o_x4 := obj_below o_x4 hN66.below
      replace o_x5 := obj_below o_x5 hN66.below
      replace o_cb22 := obj_below o_cb22 hN66.below
      replace o_D0 := obj_below o_D0 hN66.below
      replace o_x7 := obj_below o_x7 hN66.below
      replace r_x5_0 := r_x5_0.below hN66.below
      have o_x8 := hN66.here
      refine L_store b64 0 (.int .i64 0) [(.int .i64 0)] [(.int .i64 0)] 3 (by kernel_rfl) (by kernel_rfl) rfl (by kernel_rfl) o_x8 (by simp) rfl ?_
      intro w67 hW68
      replace hb := hb.trans (hW68.below g_x8)
      replace hs := Nat.le_trans hs (Nat.le_of_eq hW68.size.symm)
      have n_o_x3 := obj_wrote o_x3 hW68 ne_x3_x8
      have n_o_x4 := obj_wrote o_x4 hW68 (obj_ne o_x4 o_x8 (by simp))
      have n_o_x5 := obj_wrote o_x5 hW68 (obj_ne o_x5 o_x8 (by simp))
      have n_o_cb22 := obj_wrote o_cb22 hW68 (obj_ne o_cb22 o_x8 (by simp))
      have n_o_D0 := obj_wrote o_D0 hW68 (obj_ne o_D0 o_x8 (by simp))
      have n_o_x7 := obj_wrote o_x7 hW68 ne_x7_x8
      have n_r_x5_0 := r_x5_0.wrote hW68 (r_x5_0.ne o_x8 (by simp))
      replace o_x3 := n_o_x3; clear n_o_x3
      replace o_x4 := n_o_x4; clear n_o_x4
      replace o_x5 := n_o_x5; clear n_o_x5
      replace o_cb22 := n_o_cb22; clear n_o_cb22
      replace o_D0 := n_o_D0; clear n_o_D0
      replace o_x7 := n_o_x7; clear n_o_x7
      replace r_x5_0 := n_r_x5_0; clear n_r_x5_0
      replace o_x8 := hW68.here
      refine L_nil (thenQ_normal (W_seq (W_seq (W_region (L_mv (L_nil (thenQ_normal (W_block ?_))))))))
      have lt_x3_1 : b1 < w67.heap.size := obj_lt o_x3
      have lt_x4_1 : b4 < w67.heap.size := obj_lt o_x4
      have lt_x5_1 : b14 < w67.heap.size := obj_lt o_x5
      have lt_cb22_1 : cb22 < w67.heap.size := obj_lt o_cb22
      have lt_D0_1 : w31.heap.size < w67.heap.size := obj_lt o_D0
      have lt_x7_1 : b57 < w67.heap.size := obj_lt o_x7
      have lt_x8_1 : b64 < w67.heap.size := obj_lt o_x8
      have hs_1 := hs
      have hb_1 := hb
      refine W_range 40 [(.pointer (some ⟨cb22, 0, none⟩))] (wordsOf s) (by kernel_rfl) (fun _ _ => rfl) (it_words_Each_1 cb22 s (by omega)) o_cb22 ((fun D A B h hc hd => obj_ch h hc (fun h => Nat.not_lt.2 (hd _ h) lt_cb22_1))) (by intro x; rfl) (fun K pre A => ∃ (W : List (Int × List UInt8)) (n : Nat) (v_x5_0 : Value), (A.heap[b1]? = some (.cells [(.int .i64 most)].toArray 3 (0, 0))) ∧ (A.heap[b4]? = some (.cells [(.bool false)].toArray 4 (0, 0))) ∧ (A.heap[b14]? = some (.cells [v_x5_0].toArray 24 (0, 0))) ∧ (A.heap[cb22]? = some (.cells [(S s)].toArray 9 (0, 0))) ∧ (A.heap[w31.heap.size]? = some (.deferred (some []))) ∧ (A.heap[b57]? = some (.cells [(.int .i64 1)].toArray 3 (0, 0))) ∧ (A.heap[b64]? = some (.cells [(.int .i64 ((n : Nat) : Int))].toArray 3 (0, 0))) ∧ (Row A w.heap.size 30 2 encWord v_x5_0 W) ∧ (∀ g, Value.ownBlock v_x5_0 = some g → ¬ Iv w67.heap.size K g) ∧ (Below w.heap.size w A) ∧ (W = wordsOf s) ∧ (n = pre.length)) (fun K c pre A => (∃ (W : List (Int × List UInt8)) (m : Nat) (v_x5_0 : Value), (c = .exit 2) ∧ (A.heap[b1]? = some (.cells [(.int .i64 most)].toArray 3 (0, 0))) ∧ (A.heap[b4]? = some (.cells [(.bool false)].toArray 4 (0, 0))) ∧ (A.heap[b14]? = some (.cells [v_x5_0].toArray 24 (0, 0))) ∧ (A.heap[cb22]? = some (.cells [(S s)].toArray 9 (0, 0))) ∧ (A.heap[w31.heap.size]? = some (.deferred (some []))) ∧ (A.heap[b57]? = some (.cells [(.int .i64 1)].toArray 3 (0, 0))) ∧ (A.heap[b64]? = some (.cells [(.int .i64 ((m : Nat) : Int))].toArray 3 (0, 0))) ∧ (Row A w.heap.size 30 2 encWord v_x5_0 W) ∧ (∀ g, Value.ownBlock v_x5_0 = some g → ¬ Iv w67.heap.size K g) ∧ (Below w.heap.size w A) ∧ (W = wordsOf s) ∧ ((m : Int) = most))) ?_ ?_ ?_ ?_ ?_ ?_
      · intro A hA
        exact ⟨W, 0, v_x5_0, obj_below o_x3 hA, obj_below o_x4 hA, obj_below o_x5 hA, obj_below o_cb22 hA, obj_below o_D0 hA, obj_below o_x7 hA, obj_below o_x8 hA, r_x5_0.below hA, nr_old r_x5_0 _, hb.trans (hA.mono hs), by exact pw, by rfl⟩
      · rintro K pre A B ⟨W, n, v_x5_0, o_x3, o_x4, o_x5, o_cb22, o_D0, o_x7, o_x8, r_x5_0, nr_r_x5_0, hb, pw, pn⟩ hc
        exact ⟨W, n, v_x5_0, obj_ch o_x3 hc (fun h => Nat.not_lt.2 h.1 lt_x3_1), obj_ch o_x4 hc (fun h => Nat.not_lt.2 h.1 lt_x4_1), obj_ch o_x5 hc (fun h => Nat.not_lt.2 h.1 lt_x5_1), obj_ch o_cb22 hc (fun h => Nat.not_lt.2 h.1 lt_cb22_1), obj_ch o_D0 hc (fun h => Nat.not_lt.2 h.1 lt_D0_1), obj_ch o_x7 hc (fun h => Nat.not_lt.2 h.1 lt_x7_1), obj_ch o_x8 hc (fun h => Nat.not_lt.2 h.1 lt_x8_1), r_x5_0.ch hc nr_r_x5_0, nr_r_x5_0, hc.below hb hb.size (fun k h => Nat.le_trans hs_1 h.1), pw, pn⟩
      · rintro K c pre A B (⟨W, m, v_x5_0, hcc, o_x3, o_x4, o_x5, o_cb22, o_D0, o_x7, o_x8, r_x5_0, nr_r_x5_0, hb, pw, pn⟩) hc
        exact ⟨W, m, v_x5_0, hcc, obj_ch o_x3 hc (fun h => Nat.not_lt.2 h.1 lt_x3_1), obj_ch o_x4 hc (fun h => Nat.not_lt.2 h.1 lt_x4_1), obj_ch o_x5 hc (fun h => Nat.not_lt.2 h.1 lt_x5_1), obj_ch o_cb22 hc (fun h => Nat.not_lt.2 h.1 lt_cb22_1), obj_ch o_D0 hc (fun h => Nat.not_lt.2 h.1 lt_D0_1), obj_ch o_x7 hc (fun h => Nat.not_lt.2 h.1 lt_x7_1), obj_ch o_x8 hc (fun h => Nat.not_lt.2 h.1 lt_x8_1), r_x5_0.ch hc nr_r_x5_0, nr_r_x5_0, hc.below hb hb.size (fun k h => Nat.le_trans hs_1 h.1), pw, pn⟩
      · intro l K pre x A hi hN hK0 hK hpre
        obtain ⟨W, n, v_x5_0, o_x3, o_x4, o_x5, o_cb22, o_D0, o_x7, o_x8, r_x5_0, nr_r_x5_0, hb, pw, pn⟩ := hi
        have hs := hb.size
        have hk := Kp.refl (w67.heap.size) K A
        have nv_x3 : ¬ Iv (w67.heap.size) K b1 := fun h => Nat.not_lt.2 h.1 lt_x3_1
        have nv_x4 : ¬ Iv (w67.heap.size) K b4 := fun h => Nat.not_lt.2 h.1 lt_x4_1
        have nv_x5 : ¬ Iv (w67.heap.size) K b14 := fun h => Nat.not_lt.2 h.1 lt_x5_1
        have nv_cb22 : ¬ Iv (w67.heap.size) K cb22 := fun h => Nat.not_lt.2 h.1 lt_cb22_1
        have nv_D0 : ¬ Iv (w67.heap.size) K w31.heap.size := fun h => Nat.not_lt.2 h.1 lt_D0_1
        have nv_x7 : ¬ Iv (w67.heap.size) K b57 := fun h => Nat.not_lt.2 h.1 lt_x7_1
        have nv_x8 : ¬ Iv (w67.heap.size) K b64 := fun h => Nat.not_lt.2 h.1 lt_x8_1
        replace o_cb22 := hN
        have hat := pre_at hpre
        have hlt := pre_lt hpre
        have hwl := words_le s
        have hWl : W.length = (wordsOf s).length := by rw [pw]
        refine W_seq (W_region (L_as (L_nil (thenQ_normal (W_region (L_as (L_nil ?_)))))))
        refine thenQ_normal ⟨hk, ?_⟩
        intro w69 hc70
        replace o_x3 := obj_ch o_x3 hc70 nv_x3
        replace o_x4 := obj_ch o_x4 hc70 nv_x4
        replace o_x5 := obj_ch o_x5 hc70 nv_x5
        replace o_cb22 := obj_ch o_cb22 hc70 nv_cb22
        replace o_D0 := obj_ch o_D0 hc70 nv_D0
        replace o_x7 := obj_ch o_x7 hc70 nv_x7
        replace o_x8 := obj_ch o_x8 hc70 nv_x8
        replace r_x5_0 := r_x5_0.ch hc70 nr_r_x5_0
        replace hb := hc70.below hb hs (fun k h => Nat.le_trans hs_1 h.1)
        replace hs := hb.size
        replace hK := Nat.le_trans hK hc70.size
        replace hk := Kp.refl (w67.heap.size) K w69
        refine W_block (W_seq (W_seq (W_region (L_load b64 0 (.int .i64 ((n : Nat) : Int)) (by kernel_rfl) (by kernel_rfl) (cell_obj o_x8 rfl) (L_load b14 0 v_x5_0 (by kernel_rfl) (by kernel_rfl) (cell_obj o_x5 rfl) (L_len 24 30 (W).length v_x5_0 rfl Try.underlying24 (r_x5_0.rd).len (by kernel_rfl) (L_cmp .i64 ((n : Nat) : Int) (((W).length : Nat) : Int) ((W).length ≤ n) rfl (cmpN_ge n ((W).length)) (by kernel_rfl) (by kernel_rfl) ?_ ?_)))))))
        · intro h71
          replace h71 : (W).length ≤ n := by omega
          exfalso; omega
        · intro h72
          replace h72 : n < (W).length := by omega
          refine L_mv (L_want (by kernel_rfl) (L_mv (L_want (by kernel_rfl) (L_load b14 0 v_x5_0 (by kernel_rfl) (by kernel_rfl) (cell_obj o_x5 rfl) (L_want (by kernel_rfl) (L_load b64 0 (.int .i64 ((n : Nat) : Int)) (by kernel_rfl) (by kernel_rfl) (cell_obj o_x8 rfl) (L_want (by kernel_rfl) ?_)))))))
          obtain ⟨x73, hx74⟩ := get_some W n (by omega)
          have hz := (r_x5_0.rd).at (k := 2) (fun _ => rfl) hx74
          obtain ⟨g75, off76, hl77, hc78⟩ := hz
          have he : x73 = x := by rw [pw, pn] at hx74; exact Option.some.inj (hx74.symm.trans hat)
          refine L_ixaddr (k := .i64) v_x5_0 n _ g75 off76 el24 hl77 (by omega) (by kernel_rfl) (by kernel_rfl) (L_want (by kernel_rfl) (L_run (.pointer (some ⟨g75, (off76 + n * 2), none⟩)) (by kernel_rfl) (by kernel_rfl) (L_want (by kernel_rfl) (L_load g75 (off76 + n * 2) (.int .i64 x73.1) (by kernel_rfl) (by kernel_rfl) (hc78 0 _ rfl) (L_want (by kernel_rfl) (L_cmp .i64 x.1 x73.1 (x.1 ≠ x73.1) rfl (cmp_ne x.1 x73.1) (by kernel_rfl) (by kernel_rfl) ?_ ?_))))))
          · intro h79
            replace h79 : x.1 ≠ x73.1 := by omega
            exfalso; exact h79 (by rw [he])
          · intro h80
            replace h80 : x.1 = x73.1 := by omega
            refine L_pickF (by kernel_rfl) (L_mv (L_want (by kernel_rfl) (L_mv (L_want (by kernel_rfl) (L_load b14 0 v_x5_0 (by kernel_rfl) (by kernel_rfl) (cell_obj o_x5 rfl) (L_want (by kernel_rfl) (L_load b64 0 (.int .i64 ((n : Nat) : Int)) (by kernel_rfl) (by kernel_rfl) (cell_obj o_x8 rfl) (L_want (by kernel_rfl) ?_))))))))
            have hz := (r_x5_0.rd).at (k := 2) (fun _ => rfl) hx74
            obtain ⟨g83, off84, hl85, hc86⟩ := hz
            refine L_ixaddr (k := .i64) v_x5_0 n _ g83 off84 el24 hl85 (by omega) (by kernel_rfl) (by kernel_rfl) (L_want (by kernel_rfl) (L_run (.pointer (some ⟨g83, ((off84 + n * 2) + 1), none⟩)) (by kernel_rfl) (by kernel_rfl) (L_want (by kernel_rfl) (L_load g83 ((off84 + n * 2) + 1) (S x73.2) (by kernel_rfl) (by kernel_rfl) (hc86 1 _ rfl) (L_want (by kernel_rfl) (L_sne x.2 x73.2 rfl (by kernel_rfl) (by kernel_rfl) ?_ ?_))))))
            · intro h87
              exfalso; exact h87 (by rw [he])
            · intro h88
              refine L_pickF (by kernel_rfl) (L_nil (thenQ_normal (W_false (by kernel_rfl) (W_skip (thenQ_normal (W_seq (W_region (L_load b64 0 (.int .i64 ((n : Nat) : Int)) (by kernel_rfl) (by kernel_rfl) (cell_obj o_x8 rfl) (L_addN n 1 (by omega) (by kernel_rfl) (by kernel_rfl) (L_store b64 0 (.int .i64 (((n + 1) : Nat) : Int)) [(.int .i64 ((n : Nat) : Int))] [(.int .i64 (((n + 1) : Nat) : Int))] 3 (by kernel_rfl) (by kernel_rfl) rfl (by kernel_rfl) o_x8 (by simp) rfl ?_))))))))))
              intro w89 hW90
              replace hb := hb.trans (hW90.below g_x8)
              replace hk := hk.ch (Ch.of_wrote hW90) hK (fun k e h => nv_x8 (e ▸ h))
              replace hK := Nat.le_trans hK (Nat.le_of_eq hW90.size.symm)
              replace hs := Nat.le_trans hs (Nat.le_of_eq hW90.size.symm)
              have n_o_x3 := obj_wrote o_x3 hW90 ne_x3_x8
              have n_o_x4 := obj_wrote o_x4 hW90 (obj_ne o_x4 o_x8 (by simp))
              have n_o_x5 := obj_wrote o_x5 hW90 (obj_ne o_x5 o_x8 (by simp))
              have n_o_cb22 := obj_wrote o_cb22 hW90 (obj_ne o_cb22 o_x8 (by simp))
              have n_o_D0 := obj_wrote o_D0 hW90 (obj_ne o_D0 o_x8 (by simp))
              have n_o_x7 := obj_wrote o_x7 hW90 ne_x7_x8
              have n_r_x5_0 := r_x5_0.wrote hW90 (r_x5_0.ne o_x8 (by simp))
              replace o_x3 := n_o_x3; clear n_o_x3
              replace o_x4 := n_o_x4; clear n_o_x4
              replace o_x5 := n_o_x5; clear n_o_x5
              replace o_cb22 := n_o_cb22; clear n_o_cb22
              replace o_D0 := n_o_D0; clear n_o_D0
              replace o_x7 := n_o_x7; clear n_o_x7
              replace r_x5_0 := n_r_x5_0; clear n_r_x5_0
              replace o_x8 := hW90.here
              refine L_nil (thenQ_normal (W_seq (W_region (L_load b57 0 (.int .i64 1) (by kernel_rfl) (by kernel_rfl) (cell_obj o_x7 rfl) (L_run (.bool true) (by kernel_rfl) (by kernel_rfl) (L_mv (L_want (by kernel_rfl) (L_load b64 0 (.int .i64 (((n + 1) : Nat) : Int)) (by kernel_rfl) (by kernel_rfl) (cell_obj o_x8 rfl) (L_want (by kernel_rfl) (L_load b1 0 (.int .i64 most) (by kernel_rfl) (by kernel_rfl) (cell_obj o_x3 rfl) (L_want (by kernel_rfl) (L_cmp .i64 (((n + 1) : Nat) : Int) most ((((n + 1) : Nat) : Int) = most) rfl (cmp_eq (((n + 1) : Nat) : Int) most) (by kernel_rfl) (by kernel_rfl) ?_ ?_))))))))))))
              · intro h91
                replace h91 : (((n + 1) : Nat) : Int) = most := by omega
                refine L_pickT (by kernel_rfl) (L_nil (thenQ_normal (W_true (by kernel_rfl) (W_exit (blkQ_exit_other (by kernel_rfl) ?_)))))
                refine round_exit hk (⟨W, (n + 1), v_x5_0, rfl, o_x3, o_x4, o_x5, o_cb22, o_D0, o_x7, o_x8, r_x5_0, nr_r_x5_0, hb, ?_, ?_⟩)
                · exact pw
                · omega
              · intro h92
                replace h92 : (((n + 1) : Nat) : Int) ≠ most := by omega
                refine L_pickT (by kernel_rfl) (L_nil (thenQ_normal (W_false (by kernel_rfl) (W_skip (blkQ_normal ?_)))))
                refine round_normal hk o_cb22 ⟨W, (n + 1), v_x5_0, o_x3, o_x4, o_x5, o_cb22, o_D0, o_x7, o_x8, r_x5_0, nr_r_x5_0, hb, ?_, ?_⟩
                · exact pw
                · simp [pn]
      · intro K A hi hsz o_D1
        obtain ⟨W, n, v_x5_0, o_x3, o_x4, o_x5, o_cb22, o_D0, o_x7, o_x8, r_x5_0, nr_r_x5_0, hb, pw, pn⟩ := hi
        have ne_x3_D1 : b1 ≠ w67.heap.size := Nat.ne_of_lt lt_x3_1
        have ne_D1_x3 := ne_x3_D1.symm
        have ne_x4_D1 : b4 ≠ w67.heap.size := Nat.ne_of_lt lt_x4_1
        have ne_D1_x4 := ne_x4_D1.symm
        have ne_x5_D1 : b14 ≠ w67.heap.size := Nat.ne_of_lt lt_x5_1
        have ne_D1_x5 := ne_x5_D1.symm
        have ne_cb22_D1 : cb22 ≠ w67.heap.size := Nat.ne_of_lt lt_cb22_1
        have ne_D1_cb22 := ne_cb22_D1.symm
        have ne_D0_D1 : w31.heap.size ≠ w67.heap.size := Nat.ne_of_lt lt_D0_1
        have ne_D1_D0 := ne_D0_D1.symm
        have ne_x7_D1 : b57 ≠ w67.heap.size := Nat.ne_of_lt lt_x7_1
        have ne_D1_x7 := ne_x7_D1.symm
        have ne_x8_D1 : b64 ≠ w67.heap.size := Nat.ne_of_lt lt_x8_1
        have ne_D1_x8 := ne_x8_D1.symm
        have hs : w.heap.size ≤ _ := hb.size
        refine blkQ_normal (thenQ_normal (W_seq (W_region (L_load b64 0 (.int .i64 ((n : Nat) : Int)) (by kernel_rfl) (by kernel_rfl) (cell_obj o_x8 rfl) (L_load b14 0 v_x5_0 (by kernel_rfl) (by kernel_rfl) (cell_obj o_x5 rfl) (L_len 24 30 (W).length v_x5_0 rfl Try.underlying24 (r_x5_0.rd).len (by kernel_rfl) (L_cmp .i64 ((n : Nat) : Int) (((W).length : Nat) : Int) (n ≠ (W).length) rfl (cmpN_ne n ((W).length)) (by kernel_rfl) (by kernel_rfl) ?_ ?_)))))))
        · intro h93
          replace h93 : n ≠ (W).length := by omega
          exfalso; rw [pw] at h93; omega
        · intro h94
          replace h94 : n = (W).length := by omega
          refine L_mv (L_skip (by kernel_rfl) (L_skip (by kernel_rfl) (L_skip (by kernel_rfl) (L_skip (by kernel_rfl) (L_skip (by kernel_rfl) (L_skip (by kernel_rfl) (L_skip (by kernel_rfl) (L_pickF (by kernel_rfl) (L_nil (thenQ_normal (W_false (by kernel_rfl) (W_skip (blkQ_normal (thenQ_normal (W_seq (W_seq (W_region (L_load b57 0 (.int .i64 1) (by kernel_rfl) (by kernel_rfl) (cell_obj o_x7 rfl) (L_nil (thenQ_normal (W_region (L_new (fun b => .pointer (some ⟨b, 0, none⟩)) (.cells [(.int .i64 0)].toArray 3 (0, 0)) (by kernel_rfl) (by kernel_rfl) ?_))))))))))))))))))))))
          intro b95 w96 hN97
          have ne_x3_x7 : b1 ≠ b95 := by have := obj_lt o_x3; have := hN97.num; omega
          have ne_x7_x3 := ne_x3_x7.symm
          have ne_x4_x7 : b4 ≠ b95 := by have := obj_lt o_x4; have := hN97.num; omega
          have ne_x7_x4 := ne_x4_x7.symm
          have ne_x5_x7 : b14 ≠ b95 := by have := obj_lt o_x5; have := hN97.num; omega
          have ne_x7_x5 := ne_x5_x7.symm
          have ne_cb22_x7 : cb22 ≠ b95 := by have := obj_lt o_cb22; have := hN97.num; omega
          have ne_x7_cb22 := ne_cb22_x7.symm
          have ne_D0_x7 : w31.heap.size ≠ b95 := by have := obj_lt o_D0; have := hN97.num; omega
          have ne_x7_D0 := ne_D0_x7.symm
          have ne_x8_x7 : b64 ≠ b95 := by have := obj_lt o_x8; have := hN97.num; omega
          have ne_x7_x8 := ne_x8_x7.symm
          have ne_D1_x7 : w67.heap.size ≠ b95 := by have := obj_lt o_D1; have := hN97.num; omega
          have ne_x7_D1 := ne_D1_x7.symm
          have g_x7 : w.heap.size ≤ b95 := by rw [hN97.num]; exact hs
          replace hb := hb.trans (hN97.below.mono hs)
          replace hs := Nat.le_trans hs (hN97.below.size)
          replace o_x3 := obj_below o_x3 hN97.below
          replace o_x4 := obj_below o_x4 hN97.below
          replace o_x5 := obj_below o_x5 hN97.below
          replace o_cb22 := obj_below o_cb22 hN97.below
          replace o_D0 := obj_below o_D0 hN97.below
          replace o_x8 := obj_below o_x8 hN97.below
          replace o_D1 := obj_below o_D1 hN97.below
          replace r_x5_0 := r_x5_0.below hN97.below
          have o_x7 := hN97.here
          refine L_store b95 0 (.int .i64 1) [(.int .i64 0)] [(.int .i64 1)] 3 (by kernel_rfl) (by kernel_rfl) rfl (by kernel_rfl) o_x7 (by simp) rfl ?_
          intro w98 hW99
          replace hb := hb.trans (hW99.below g_x7)
          replace hs := Nat.le_trans hs (Nat.le_of_eq hW99.size.symm)
          have n_o_x3 := obj_wrote o_x3 hW99 ne_x3_x7
          have n_o_x4 := obj_wrote o_x4 hW99 (obj_ne o_x4 o_x7 (by simp))
          have n_o_x5 := obj_wrote o_x5 hW99 (obj_ne o_x5 o_x7 (by simp))
          have n_o_cb22 := obj_wrote o_cb22 hW99 (obj_ne o_cb22 o_x7 (by simp))
          have n_o_D0 := obj_wrote o_D0 hW99 (obj_ne o_D0 o_x7 (by simp))
          have n_o_x8 := obj_wrote o_x8 hW99 ne_x8_x7
          have n_o_D1 := obj_wrote o_D1 hW99 (obj_ne o_D1 o_x7 (by simp))
          have n_r_x5_0 := r_x5_0.wrote hW99 (r_x5_0.ne o_x7 (by simp))
          replace o_x3 := n_o_x3; clear n_o_x3
          replace o_x4 := n_o_x4; clear n_o_x4
          replace o_x5 := n_o_x5; clear n_o_x5
          replace o_cb22 := n_o_cb22; clear n_o_cb22
          replace o_D0 := n_o_D0; clear n_o_D0
          replace o_x8 := n_o_x8; clear n_o_x8
          replace o_D1 := n_o_D1; clear n_o_D1
          replace r_x5_0 := n_r_x5_0; clear n_r_x5_0
          replace o_x7 := hW99.here
          refine L_nil (thenQ_normal (W_region (L_load b95 0 (.int .i64 1) (by kernel_rfl) (by kernel_rfl) (cell_obj o_x7 rfl) (L_addN 1 1 (by omega) (by kernel_rfl) (by kernel_rfl) (L_store b95 0 (.int .i64 2) [(.int .i64 1)] [(.int .i64 2)] 3 (by kernel_rfl) (by kernel_rfl) rfl (by kernel_rfl) o_x7 (by simp) rfl ?_)))))
          intro w100 hW101
          replace hb := hb.trans (hW101.below g_x7)
          replace hs := Nat.le_trans hs (Nat.le_of_eq hW101.size.symm)
          have n_o_x3 := obj_wrote o_x3 hW101 ne_x3_x7
          have n_o_x4 := obj_wrote o_x4 hW101 (obj_ne o_x4 o_x7 (by simp))
          have n_o_x5 := obj_wrote o_x5 hW101 (obj_ne o_x5 o_x7 (by simp))
          have n_o_cb22 := obj_wrote o_cb22 hW101 (obj_ne o_cb22 o_x7 (by simp))
          have n_o_D0 := obj_wrote o_D0 hW101 (obj_ne o_D0 o_x7 (by simp))
          have n_o_x8 := obj_wrote o_x8 hW101 ne_x8_x7
          have n_o_D1 := obj_wrote o_D1 hW101 (obj_ne o_D1 o_x7 (by simp))
          have n_r_x5_0 := r_x5_0.wrote hW101 (r_x5_0.ne o_x7 (by simp))
          replace o_x3 := n_o_x3; clear n_o_x3
          replace o_x4 := n_o_x4; clear n_o_x4
          replace o_x5 := n_o_x5; clear n_o_x5
          replace o_cb22 := n_o_cb22; clear n_o_cb22
          replace o_D0 := n_o_D0; clear n_o_D0
          replace o_x8 := n_o_x8; clear n_o_x8
          replace o_D1 := n_o_D1; clear n_o_D1
          replace r_x5_0 := n_r_x5_0; clear n_r_x5_0
          replace o_x7 := hW101.here
          refine L_nil (thenQ_round (W_seq (W_seq (W_region (L_load b95 0 (.int .i64 2) (by kernel_rfl) (by kernel_rfl) (cell_obj o_x7 rfl) (L_run (.bool true) (by kernel_rfl) (by kernel_rfl) (L_nil (thenQ_normal (W_true (by kernel_rfl) (W_skip (thenQ_normal (W_seq (W_block (W_seq (W_region (L_new (fun b => .pointer (some ⟨b, 0, none⟩)) (.cells [(.int .i64 0)].toArray 3 (0, 0)) (by kernel_rfl) (by kernel_rfl) ?_))))))))))))))))
          intro b102 w103 hN104
          have ne_x3_x8 : b1 ≠ b102 := by have := obj_lt o_x3; have := hN104.num; omega
          have ne_x8_x3 := ne_x3_x8.symm
          have ne_x4_x8 : b4 ≠ b102 := by have := obj_lt o_x4; have := hN104.num; omega
          have ne_x8_x4 := ne_x4_x8.symm
          have ne_x5_x8 : b14 ≠ b102 := by have := obj_lt o_x5; have := hN104.num; omega
          have ne_x8_x5 := ne_x5_x8.symm
          have ne_cb22_x8 : cb22 ≠ b102 := by have := obj_lt o_cb22; have := hN104.num; omega
          have ne_x8_cb22 := ne_cb22_x8.symm
          have ne_D0_x8 : w31.heap.size ≠ b102 := by have := obj_lt o_D0; have := hN104.num; omega
          have ne_x8_D0 := ne_D0_x8.symm
          have ne_D1_x8 : w67.heap.size ≠ b102 := by have := obj_lt o_D1; have := hN104.num; omega
          have ne_x8_D1 := ne_D1_x8.symm
          have ne_x7_x8 : b95 ≠ b102 := by have := obj_lt o_x7; have := hN104.num; omega
          have ne_x8_x7 := ne_x7_x8.symm
          have g_x8 : w.heap.size ≤ b102 := by rw [hN104.num]; exact hs
          replace hb := hb.trans (hN104.below.mono hs)
          replace hs := Nat.le_trans hs (hN104.below.size)
          replace o_x3 := obj_below o_x3 hN104.below
          replace o_x4 := obj_below o_x4 hN104.below
          replace o_x5 := obj_below o_x5 hN104.below
          replace o_cb22 := obj_below o_cb22 hN104.below
          replace o_D0 := obj_below o_D0 hN104.below
          replace o_D1 := obj_below o_D1 hN104.below
          replace o_x7 := obj_below o_x7 hN104.below
          replace r_x5_0 := r_x5_0.below hN104.below
          have o_x8 := hN104.here
          refine L_store b102 0 (.int .i64 0) [(.int .i64 0)] [(.int .i64 0)] 3 (by kernel_rfl) (by kernel_rfl) rfl (by kernel_rfl) o_x8 (by simp) rfl ?_
          intro w105 hW106
          replace hb := hb.trans (hW106.below g_x8)
          replace hs := Nat.le_trans hs (Nat.le_of_eq hW106.size.symm)
          have n_o_x3 := obj_wrote o_x3 hW106 ne_x3_x8
          have n_o_x4 := obj_wrote o_x4 hW106 (obj_ne o_x4 o_x8 (by simp))
          have n_o_x5 := obj_wrote o_x5 hW106 (obj_ne o_x5 o_x8 (by simp))
          have n_o_cb22 := obj_wrote o_cb22 hW106 (obj_ne o_cb22 o_x8 (by simp))
          have n_o_D0 := obj_wrote o_D0 hW106 (obj_ne o_D0 o_x8 (by simp))
          have n_o_D1 := obj_wrote o_D1 hW106 (obj_ne o_D1 o_x8 (by simp))
          have n_o_x7 := obj_wrote o_x7 hW106 ne_x7_x8
          have n_r_x5_0 := r_x5_0.wrote hW106 (r_x5_0.ne o_x8 (by simp))
          replace o_x3 := n_o_x3; clear n_o_x3
          replace o_x4 := n_o_x4; clear n_o_x4
          replace o_x5 := n_o_x5; clear n_o_x5
          replace o_cb22 := n_o_cb22; clear n_o_cb22
          replace o_D0 := n_o_D0; clear n_o_D0
          replace o_D1 := n_o_D1; clear n_o_D1
          replace o_x7 := n_o_x7; clear n_o_x7
          replace r_x5_0 := n_r_x5_0; clear n_r_x5_0
          replace o_x8 := hW106.here
          refine L_nil (thenQ_normal (W_seq (W_seq (W_region (L_mv (L_nil (thenQ_normal (W_block ?_))))))))
          have lt_x3_2 : b1 < w105.heap.size := obj_lt o_x3
          have lt_x4_2 : b4 < w105.heap.size := obj_lt o_x4
          have lt_x5_2 : b14 < w105.heap.size := obj_lt o_x5
          have lt_cb22_2 : cb22 < w105.heap.size := obj_lt o_cb22
          have lt_D0_2 : w31.heap.size < w105.heap.size := obj_lt o_D0
          have lt_D1_2 : w67.heap.size < w105.heap.size := obj_lt o_D1
          have lt_x7_2 : b95 < w105.heap.size := obj_lt o_x7
          have lt_x8_2 : b102 < w105.heap.size := obj_lt o_x8
          have hs_2 := hs
          have hb_2 := hb
          refine W_range 40 [(.pointer (some ⟨cb22, 0, none⟩))] (wordsOf s) (by kernel_rfl) (fun _ _ => rfl) (it_words_Each_1 cb22 s (by omega)) o_cb22 ((fun D A B h hc hd => obj_ch h hc (fun h => Nat.not_lt.2 (hd _ h) lt_cb22_2))) (by intro x; rfl) (fun K pre A => ∃ (W : List (Int × List UInt8)) (n : Nat) (v_x5_0 : Value), (A.heap[b1]? = some (.cells [(.int .i64 most)].toArray 3 (0, 0))) ∧ (A.heap[b4]? = some (.cells [(.bool false)].toArray 4 (0, 0))) ∧ (A.heap[b14]? = some (.cells [v_x5_0].toArray 24 (0, 0))) ∧ (A.heap[cb22]? = some (.cells [(S s)].toArray 9 (0, 0))) ∧ (A.heap[w31.heap.size]? = some (.deferred (some []))) ∧ (A.heap[w67.heap.size]? = some (.deferred (some []))) ∧ (A.heap[b95]? = some (.cells [(.int .i64 2)].toArray 3 (0, 0))) ∧ (A.heap[b102]? = some (.cells [(.int .i64 ((n : Nat) : Int))].toArray 3 (0, 0))) ∧ (Row A w.heap.size 30 2 encWord v_x5_0 W) ∧ (∀ g, Value.ownBlock v_x5_0 = some g → ¬ Iv w105.heap.size K g) ∧ (Below w.heap.size w A) ∧ (W = wordsOf s) ∧ (n = pre.length)) (fun K c pre A => False) ?_ ?_ ?_ ?_ ?_ ?_
          · intro A hA
            exact ⟨W, 0, v_x5_0, obj_below o_x3 hA, obj_below o_x4 hA, obj_below o_x5 hA, obj_below o_cb22 hA, obj_below o_D0 hA, obj_below o_D1 hA, obj_below o_x7 hA, obj_below o_x8 hA, r_x5_0.below hA, nr_old r_x5_0 _, hb.trans (hA.mono hs), by exact pw, by rfl⟩
          · rintro K pre A B ⟨W, n, v_x5_0, o_x3, o_x4, o_x5, o_cb22, o_D0, o_D1, o_x7, o_x8, r_x5_0, nr_r_x5_0, hb, pw, pn⟩ hc
            exact ⟨W, n, v_x5_0, obj_ch o_x3 hc (fun h => Nat.not_lt.2 h.1 lt_x3_2), obj_ch o_x4 hc (fun h => Nat.not_lt.2 h.1 lt_x4_2), obj_ch o_x5 hc (fun h => Nat.not_lt.2 h.1 lt_x5_2), obj_ch o_cb22 hc (fun h => Nat.not_lt.2 h.1 lt_cb22_2), obj_ch o_D0 hc (fun h => Nat.not_lt.2 h.1 lt_D0_2), obj_ch o_D1 hc (fun h => Nat.not_lt.2 h.1 lt_D1_2), obj_ch o_x7 hc (fun h => Nat.not_lt.2 h.1 lt_x7_2), obj_ch o_x8 hc (fun h => Nat.not_lt.2 h.1 lt_x8_2), r_x5_0.ch hc nr_r_x5_0, nr_r_x5_0, hc.below hb hb.size (fun k h => Nat.le_trans hs_2 h.1), pw, pn⟩
          · intro K c _ A B h hc; exact h.elim
          · intro l K pre x A hi hN hK0 hK hpre
            obtain ⟨W, n, v_x5_0, o_x3, o_x4, o_x5, o_cb22, o_D0, o_D1, o_x7, o_x8, r_x5_0, nr_r_x5_0, hb, pw, pn⟩ := hi
            have hs := hb.size
            have hk := Kp.refl (w105.heap.size) K A
            have nv_x3 : ¬ Iv (w105.heap.size) K b1 := fun h => Nat.not_lt.2 h.1 lt_x3_2
            have nv_x4 : ¬ Iv (w105.heap.size) K b4 := fun h => Nat.not_lt.2 h.1 lt_x4_2
            have nv_x5 : ¬ Iv (w105.heap.size) K b14 := fun h => Nat.not_lt.2 h.1 lt_x5_2
            have nv_cb22 : ¬ Iv (w105.heap.size) K cb22 := fun h => Nat.not_lt.2 h.1 lt_cb22_2
            have nv_D0 : ¬ Iv (w105.heap.size) K w31.heap.size := fun h => Nat.not_lt.2 h.1 lt_D0_2
            have nv_D1 : ¬ Iv (w105.heap.size) K w67.heap.size := fun h => Nat.not_lt.2 h.1 lt_D1_2
            have nv_x7 : ¬ Iv (w105.heap.size) K b95 := fun h => Nat.not_lt.2 h.1 lt_x7_2
            have nv_x8 : ¬ Iv (w105.heap.size) K b102 := fun h => Nat.not_lt.2 h.1 lt_x8_2
            replace o_cb22 := hN
            have hat := pre_at hpre
            have hlt := pre_lt hpre
            have hwl := words_le s
            have hWl : W.length = (wordsOf s).length := by rw [pw]
            refine W_seq (W_region (L_as (L_nil (thenQ_normal (W_region (L_as (L_nil ?_)))))))
            refine thenQ_normal ⟨hk, ?_⟩
            intro w107 hc108
            replace o_x3 := obj_ch o_x3 hc108 nv_x3
            replace o_x4 := obj_ch o_x4 hc108 nv_x4
            replace o_x5 := obj_ch o_x5 hc108 nv_x5
            replace o_cb22 := obj_ch o_cb22 hc108 nv_cb22
            replace o_D0 := obj_ch o_D0 hc108 nv_D0
            replace o_D1 := obj_ch o_D1 hc108 nv_D1
            replace o_x7 := obj_ch o_x7 hc108 nv_x7
            replace o_x8 := obj_ch o_x8 hc108 nv_x8
            replace r_x5_0 := r_x5_0.ch hc108 nr_r_x5_0
            replace hb := hc108.below hb hs (fun k h => Nat.le_trans hs_2 h.1)
            replace hs := hb.size
            replace hK := Nat.le_trans hK hc108.size
            replace hk := Kp.refl (w105.heap.size) K w107
            refine W_block (W_seq (W_seq (W_region (L_load b102 0 (.int .i64 ((n : Nat) : Int)) (by kernel_rfl) (by kernel_rfl) (cell_obj o_x8 rfl) (L_load b14 0 v_x5_0 (by kernel_rfl) (by kernel_rfl) (cell_obj o_x5 rfl) (L_len 24 30 (W).length v_x5_0 rfl Try.underlying24 (r_x5_0.rd).len (by kernel_rfl) (L_cmp .i64 ((n : Nat) : Int) (((W).length : Nat) : Int) ((W).length ≤ n) rfl (cmpN_ge n ((W).length)) (by kernel_rfl) (by kernel_rfl) ?_ ?_)))))))
            · intro h109
              replace h109 : (W).length ≤ n := by omega
              exfalso; omega
            · intro h110
              replace h110 : n < (W).length := by omega
              refine L_mv (L_want (by kernel_rfl) (L_mv (L_want (by kernel_rfl) (L_load b14 0 v_x5_0 (by kernel_rfl) (by kernel_rfl) (cell_obj o_x5 rfl) (L_want (by kernel_rfl) (L_load b102 0 (.int .i64 ((n : Nat) : Int)) (by kernel_rfl) (by kernel_rfl) (cell_obj o_x8 rfl) (L_want (by kernel_rfl) ?_)))))))
              obtain ⟨x111, hx112⟩ := get_some W n (by omega)
              have hz := (r_x5_0.rd).at (k := 2) (fun _ => rfl) hx112
              obtain ⟨g113, off114, hl115, hc116⟩ := hz
              have he : x111 = x := by rw [pw, pn] at hx112; exact Option.some.inj (hx112.symm.trans hat)
              refine L_ixaddr (k := .i64) v_x5_0 n _ g113 off114 el24 hl115 (by omega) (by kernel_rfl) (by kernel_rfl) (L_want (by kernel_rfl) (L_run (.pointer (some ⟨g113, (off114 + n * 2), none⟩)) (by kernel_rfl) (by kernel_rfl) (L_want (by kernel_rfl) (L_load g113 (off114 + n * 2) (.int .i64 x111.1) (by kernel_rfl) (by kernel_rfl) (hc116 0 _ rfl) (L_want (by kernel_rfl) (L_cmp .i64 x.1 x111.1 (x.1 ≠ x111.1) rfl (cmp_ne x.1 x111.1) (by kernel_rfl) (by kernel_rfl) ?_ ?_))))))
              · intro h117
                replace h117 : x.1 ≠ x111.1 := by omega
                exfalso; exact h117 (by rw [he])
              · intro h118
                replace h118 : x.1 = x111.1 := by omega
                refine L_pickF (by kernel_rfl) (L_mv (L_want (by kernel_rfl) (L_mv (L_want (by kernel_rfl) (L_load b14 0 v_x5_0 (by kernel_rfl) (by kernel_rfl) (cell_obj o_x5 rfl) (L_want (by kernel_rfl) (L_load b102 0 (.int .i64 ((n : Nat) : Int)) (by kernel_rfl) (by kernel_rfl) (cell_obj o_x8 rfl) (L_want (by kernel_rfl) ?_))))))))
                have hz := (r_x5_0.rd).at (k := 2) (fun _ => rfl) hx112
                obtain ⟨g121, off122, hl123, hc124⟩ := hz
                refine L_ixaddr (k := .i64) v_x5_0 n _ g121 off122 el24 hl123 (by omega) (by kernel_rfl) (by kernel_rfl) (L_want (by kernel_rfl) (L_run (.pointer (some ⟨g121, ((off122 + n * 2) + 1), none⟩)) (by kernel_rfl) (by kernel_rfl) (L_want (by kernel_rfl) (L_load g121 ((off122 + n * 2) + 1) (S x111.2) (by kernel_rfl) (by kernel_rfl) (hc124 1 _ rfl) (L_want (by kernel_rfl) (L_sne x.2 x111.2 rfl (by kernel_rfl) (by kernel_rfl) ?_ ?_))))))
                · intro h125
                  exfalso; exact h125 (by rw [he])
                · intro h126
                  refine L_pickF (by kernel_rfl) (L_nil (thenQ_normal (W_false (by kernel_rfl) (W_skip (thenQ_normal (W_seq (W_region (L_load b102 0 (.int .i64 ((n : Nat) : Int)) (by kernel_rfl) (by kernel_rfl) (cell_obj o_x8 rfl) (L_addN n 1 (by omega) (by kernel_rfl) (by kernel_rfl) (L_store b102 0 (.int .i64 (((n + 1) : Nat) : Int)) [(.int .i64 ((n : Nat) : Int))] [(.int .i64 (((n + 1) : Nat) : Int))] 3 (by kernel_rfl) (by kernel_rfl) rfl (by kernel_rfl) o_x8 (by simp) rfl ?_))))))))))
                  intro w127 hW128
                  replace hb := hb.trans (hW128.below g_x8)
                  replace hk := hk.ch (Ch.of_wrote hW128) hK (fun k e h => nv_x8 (e ▸ h))
                  replace hK := Nat.le_trans hK (Nat.le_of_eq hW128.size.symm)
                  replace hs := Nat.le_trans hs (Nat.le_of_eq hW128.size.symm)
                  have n_o_x3 := obj_wrote o_x3 hW128 ne_x3_x8
                  have n_o_x4 := obj_wrote o_x4 hW128 (obj_ne o_x4 o_x8 (by simp))
                  have n_o_x5 := obj_wrote o_x5 hW128 (obj_ne o_x5 o_x8 (by simp))
                  have n_o_cb22 := obj_wrote o_cb22 hW128 (obj_ne o_cb22 o_x8 (by simp))
                  have n_o_D0 := obj_wrote o_D0 hW128 (obj_ne o_D0 o_x8 (by simp))
                  have n_o_D1 := obj_wrote o_D1 hW128 (obj_ne o_D1 o_x8 (by simp))
                  have n_o_x7 := obj_wrote o_x7 hW128 ne_x7_x8
                  have n_r_x5_0 := r_x5_0.wrote hW128 (r_x5_0.ne o_x8 (by simp))
                  replace o_x3 := n_o_x3; clear n_o_x3
                  replace o_x4 := n_o_x4; clear n_o_x4
                  replace o_x5 := n_o_x5; clear n_o_x5
                  replace o_cb22 := n_o_cb22; clear n_o_cb22
                  replace o_D0 := n_o_D0; clear n_o_D0
                  replace o_D1 := n_o_D1; clear n_o_D1
                  replace o_x7 := n_o_x7; clear n_o_x7
                  replace r_x5_0 := n_r_x5_0; clear n_r_x5_0
                  replace o_x8 := hW128.here
                  refine L_nil (thenQ_normal (W_seq (W_region (L_load b95 0 (.int .i64 2) (by kernel_rfl) (by kernel_rfl) (cell_obj o_x7 rfl) (L_run (.bool false) (by kernel_rfl) (by kernel_rfl) (L_mv (L_skip (by kernel_rfl) (L_skip (by kernel_rfl) (L_skip (by kernel_rfl) (L_pickF (by kernel_rfl) (L_nil (thenQ_normal (W_false (by kernel_rfl) (W_skip (blkQ_normal ?_)))))))))))))))
                  refine round_normal hk o_cb22 ⟨W, (n + 1), v_x5_0, o_x3, o_x4, o_x5, o_cb22, o_D0, o_D1, o_x7, o_x8, r_x5_0, nr_r_x5_0, hb, ?_, ?_⟩
                  · exact pw
                  · simp [pn]
          · intro K A hi hsz o_D2
            obtain ⟨W, n, v_x5_0, o_x3, o_x4, o_x5, o_cb22, o_D0, o_D1, o_x7, o_x8, r_x5_0, nr_r_x5_0, hb, pw, pn⟩ := hi
            have ne_x3_D2 : b1 ≠ w105.heap.size := Nat.ne_of_lt lt_x3_2
            have ne_D2_x3 := ne_x3_D2.symm
            have ne_x4_D2 : b4 ≠ w105.heap.size := Nat.ne_of_lt lt_x4_2
            have ne_D2_x4 := ne_x4_D2.symm
            have ne_x5_D2 : b14 ≠ w105.heap.size := Nat.ne_of_lt lt_x5_2
            have ne_D2_x5 := ne_x5_D2.symm
            have ne_cb22_D2 : cb22 ≠ w105.heap.size := Nat.ne_of_lt lt_cb22_2
            have ne_D2_cb22 := ne_cb22_D2.symm
            have ne_D0_D2 : w31.heap.size ≠ w105.heap.size := Nat.ne_of_lt lt_D0_2
            have ne_D2_D0 := ne_D0_D2.symm
            have ne_D1_D2 : w67.heap.size ≠ w105.heap.size := Nat.ne_of_lt lt_D1_2
            have ne_D2_D1 := ne_D1_D2.symm
            have ne_x7_D2 : b95 ≠ w105.heap.size := Nat.ne_of_lt lt_x7_2
            have ne_D2_x7 := ne_x7_D2.symm
            have ne_x8_D2 : b102 ≠ w105.heap.size := Nat.ne_of_lt lt_x8_2
            have ne_D2_x8 := ne_x8_D2.symm
            have hs : w.heap.size ≤ _ := hb.size
            refine blkQ_normal (thenQ_normal (W_seq (W_region (L_load b102 0 (.int .i64 ((n : Nat) : Int)) (by kernel_rfl) (by kernel_rfl) (cell_obj o_x8 rfl) (L_load b14 0 v_x5_0 (by kernel_rfl) (by kernel_rfl) (cell_obj o_x5 rfl) (L_len 24 30 (W).length v_x5_0 rfl Try.underlying24 (r_x5_0.rd).len (by kernel_rfl) (L_cmp .i64 ((n : Nat) : Int) (((W).length : Nat) : Int) (n ≠ (W).length) rfl (cmpN_ne n ((W).length)) (by kernel_rfl) (by kernel_rfl) ?_ ?_)))))))
            · intro h129
              replace h129 : n ≠ (W).length := by omega
              exfalso; rw [pw] at h129; omega
            · intro h130
              replace h130 : n = (W).length := by omega
              refine L_mv (L_skip (by kernel_rfl) (L_skip (by kernel_rfl) (L_skip (by kernel_rfl) (L_skip (by kernel_rfl) (L_skip (by kernel_rfl) (L_skip (by kernel_rfl) (L_skip (by kernel_rfl) (L_pickF (by kernel_rfl) (L_nil (thenQ_normal (W_false (by kernel_rfl) (W_skip (blkQ_normal (thenQ_normal (W_seq (W_seq (W_region (L_load b95 0 (.int .i64 2) (by kernel_rfl) (by kernel_rfl) (cell_obj o_x7 rfl) (L_nil (thenQ_normal (W_region (L_new (fun b => .pointer (some ⟨b, 0, none⟩)) (.cells [(.int .i64 0)].toArray 3 (0, 0)) (by kernel_rfl) (by kernel_rfl) ?_))))))))))))))))))))))
              intro b131 w132 hN133
              have ne_x3_x7 : b1 ≠ b131 := by have := obj_lt o_x3; have := hN133.num; omega
              have ne_x7_x3 := ne_x3_x7.symm
              have ne_x4_x7 : b4 ≠ b131 := by have := obj_lt o_x4; have := hN133.num; omega
              have ne_x7_x4 := ne_x4_x7.symm
              have ne_x5_x7 : b14 ≠ b131 := by have := obj_lt o_x5; have := hN133.num; omega
              have ne_x7_x5 := ne_x5_x7.symm
              have ne_cb22_x7 : cb22 ≠ b131 := by have := obj_lt o_cb22; have := hN133.num; omega
              have ne_x7_cb22 := ne_cb22_x7.symm
              have ne_D0_x7 : w31.heap.size ≠ b131 := by have := obj_lt o_D0; have := hN133.num; omega
              have ne_x7_D0 := ne_D0_x7.symm
              have ne_D1_x7 : w67.heap.size ≠ b131 := by have := obj_lt o_D1; have := hN133.num; omega
              have ne_x7_D1 := ne_D1_x7.symm
              have ne_x8_x7 : b102 ≠ b131 := by have := obj_lt o_x8; have := hN133.num; omega
              have ne_x7_x8 := ne_x8_x7.symm
              have ne_D2_x7 : w105.heap.size ≠ b131 := by have := obj_lt o_D2; have := hN133.num; omega
              have ne_x7_D2 := ne_D2_x7.symm
              have g_x7 : w.heap.size ≤ b131 := by rw [hN133.num]; exact hs
              replace hb := hb.trans (hN133.below.mono hs)
              replace hs := Nat.le_trans hs (hN133.below.size)
              replace o_x3 := obj_below o_x3 hN133.below
              replace o_x4 := obj_below o_x4 hN133.below
              replace o_x5 := obj_below o_x5 hN133.below
              replace o_cb22 := obj_below o_cb22 hN133.below
              replace o_D0 := obj_below o_D0 hN133.below
              replace o_D1 := obj_below o_D1 hN133.below
              replace o_x8 := obj_below o_x8 hN133.below
              replace o_D2 := obj_below o_D2 hN133.below
              replace r_x5_0 := r_x5_0.below hN133.below
              have o_x7 := hN133.here
              refine L_store b131 0 (.int .i64 2) [(.int .i64 0)] [(.int .i64 2)] 3 (by kernel_rfl) (by kernel_rfl) rfl (by kernel_rfl) o_x7 (by simp) rfl ?_
              intro w134 hW135
              replace hb := hb.trans (hW135.below g_x7)
              replace hs := Nat.le_trans hs (Nat.le_of_eq hW135.size.symm)
              have n_o_x3 := obj_wrote o_x3 hW135 ne_x3_x7
              have n_o_x4 := obj_wrote o_x4 hW135 (obj_ne o_x4 o_x7 (by simp))
              have n_o_x5 := obj_wrote o_x5 hW135 (obj_ne o_x5 o_x7 (by simp))
              have n_o_cb22 := obj_wrote o_cb22 hW135 (obj_ne o_cb22 o_x7 (by simp))
              have n_o_D0 := obj_wrote o_D0 hW135 (obj_ne o_D0 o_x7 (by simp))
              have n_o_D1 := obj_wrote o_D1 hW135 (obj_ne o_D1 o_x7 (by simp))
              have n_o_x8 := obj_wrote o_x8 hW135 ne_x8_x7
              have n_o_D2 := obj_wrote o_D2 hW135 (obj_ne o_D2 o_x7 (by simp))
              have n_r_x5_0 := r_x5_0.wrote hW135 (r_x5_0.ne o_x7 (by simp))
              replace o_x3 := n_o_x3; clear n_o_x3
              replace o_x4 := n_o_x4; clear n_o_x4
              replace o_x5 := n_o_x5; clear n_o_x5
              replace o_cb22 := n_o_cb22; clear n_o_cb22
              replace o_D0 := n_o_D0; clear n_o_D0
              replace o_D1 := n_o_D1; clear n_o_D1
              replace o_x8 := n_o_x8; clear n_o_x8
              replace o_D2 := n_o_D2; clear n_o_D2
              replace r_x5_0 := n_r_x5_0; clear n_r_x5_0
              replace o_x7 := hW135.here
              refine L_nil (thenQ_normal (W_region (L_load b131 0 (.int .i64 2) (by kernel_rfl) (by kernel_rfl) (cell_obj o_x7 rfl) (L_addN 2 1 (by omega) (by kernel_rfl) (by kernel_rfl) (L_store b131 0 (.int .i64 3) [(.int .i64 2)] [(.int .i64 3)] 3 (by kernel_rfl) (by kernel_rfl) rfl (by kernel_rfl) o_x7 (by simp) rfl ?_)))))
              intro w136 hW137
              replace hb := hb.trans (hW137.below g_x7)
              replace hs := Nat.le_trans hs (Nat.le_of_eq hW137.size.symm)
              have n_o_x3 := obj_wrote o_x3 hW137 ne_x3_x7
              have n_o_x4 := obj_wrote o_x4 hW137 (obj_ne o_x4 o_x7 (by simp))
              have n_o_x5 := obj_wrote o_x5 hW137 (obj_ne o_x5 o_x7 (by simp))
              have n_o_cb22 := obj_wrote o_cb22 hW137 (obj_ne o_cb22 o_x7 (by simp))
              have n_o_D0 := obj_wrote o_D0 hW137 (obj_ne o_D0 o_x7 (by simp))
              have n_o_D1 := obj_wrote o_D1 hW137 (obj_ne o_D1 o_x7 (by simp))
              have n_o_x8 := obj_wrote o_x8 hW137 ne_x8_x7
              have n_o_D2 := obj_wrote o_D2 hW137 (obj_ne o_D2 o_x7 (by simp))
              have n_r_x5_0 := r_x5_0.wrote hW137 (r_x5_0.ne o_x7 (by simp))
              replace o_x3 := n_o_x3; clear n_o_x3
              replace o_x4 := n_o_x4; clear n_o_x4
              replace o_x5 := n_o_x5; clear n_o_x5
              replace o_cb22 := n_o_cb22; clear n_o_cb22
              replace o_D0 := n_o_D0; clear n_o_D0
              replace o_D1 := n_o_D1; clear n_o_D1
              replace o_x8 := n_o_x8; clear n_o_x8
              replace o_D2 := n_o_D2; clear n_o_D2
              replace r_x5_0 := n_r_x5_0; clear n_r_x5_0
              replace o_x7 := hW137.here
              refine L_nil (thenQ_round (W_seq (W_seq (W_region (L_load b131 0 (.int .i64 3) (by kernel_rfl) (by kernel_rfl) (cell_obj o_x7 rfl) (L_run (.bool false) (by kernel_rfl) (by kernel_rfl) (L_nil (thenQ_normal (W_false (by kernel_rfl) (W_exit (thenQ_exit (thenQ_exit (blkQ_exit (thenQ_normal (W_seq (W_region (L_call 15 [] (by kernel_rfl) (by kernel_rfl) (c_furrowlaw05_awake  _ ) ?_)))))))))))))))))
              rintro _ w138 ⟨rfl, hB139⟩
              replace hb := hb.trans (hB139.mono hs)
              replace hs := Nat.le_trans hs (hB139.size)
              replace o_x3 := obj_below o_x3 hB139
              replace o_x4 := obj_below o_x4 hB139
              replace o_x5 := obj_below o_x5 hB139
              replace o_cb22 := obj_below o_cb22 hB139
              replace o_D0 := obj_below o_D0 hB139
              replace o_D1 := obj_below o_D1 hB139
              replace o_x8 := obj_below o_x8 hB139
              replace o_D2 := obj_below o_D2 hB139
              replace o_x7 := obj_below o_x7 hB139
              replace r_x5_0 := r_x5_0.below hB139
              refine L_store b4 0 (.bool true) [(.bool false)] [(.bool true)] 4 (by kernel_rfl) (by kernel_rfl) rfl (by kernel_rfl) o_x4 (by simp) rfl ?_
              intro w141 hW142
              replace hb := hb.trans (hW142.below g_x4)
              replace hs := Nat.le_trans hs (Nat.le_of_eq hW142.size.symm)
              have n_o_x3 := obj_wrote o_x3 hW142 (obj_ne o_x3 o_x4 (by simp))
              have n_o_x5 := obj_wrote o_x5 hW142 (obj_ne o_x5 o_x4 (by simp))
              have n_o_cb22 := obj_wrote o_cb22 hW142 (obj_ne o_cb22 o_x4 (by simp))
              have n_o_D0 := obj_wrote o_D0 hW142 (obj_ne o_D0 o_x4 (by simp))
              have n_o_D1 := obj_wrote o_D1 hW142 (obj_ne o_D1 o_x4 (by simp))
              have n_o_x8 := obj_wrote o_x8 hW142 (obj_ne o_x8 o_x4 (by simp))
              have n_o_D2 := obj_wrote o_D2 hW142 (obj_ne o_D2 o_x4 (by simp))
              have n_o_x7 := obj_wrote o_x7 hW142 (obj_ne o_x7 o_x4 (by simp))
              have n_r_x5_0 := r_x5_0.wrote hW142 (r_x5_0.ne o_x4 (by simp))
              replace o_x3 := n_o_x3; clear n_o_x3
              replace o_x5 := n_o_x5; clear n_o_x5
              replace o_cb22 := n_o_cb22; clear n_o_cb22
              replace o_D0 := n_o_D0; clear n_o_D0
              replace o_D1 := n_o_D1; clear n_o_D1
              replace o_x8 := n_o_x8; clear n_o_x8
              replace o_D2 := n_o_D2; clear n_o_D2
              replace o_x7 := n_o_x7; clear n_o_x7
              replace r_x5_0 := n_r_x5_0; clear n_r_x5_0
              replace o_x4 := hW142.here
              refine L_nil (thenQ_normal (W_ret (end_retM (ds := [⟨.collected w105.heap.size, #[]⟩, ⟨.collected w67.heap.size, #[]⟩, ⟨.collected w31.heap.size, #[]⟩]) (by kernel_rfl) (Lv_mark o_D2 ?_))))
              intro w143 hW144
              replace hb := hb.trans (hW144.below hs_2)
              replace hs := Nat.le_trans hs (Nat.le_of_eq hW144.size.symm)
              have n_o_x3 := obj_wrote o_x3 hW144 (obj_ne o_x3 o_D2 (by simp))
              have n_o_x4 := obj_wrote o_x4 hW144 (obj_ne o_x4 o_D2 (by simp))
              have n_o_x5 := obj_wrote o_x5 hW144 (obj_ne o_x5 o_D2 (by simp))
              have n_o_cb22 := obj_wrote o_cb22 hW144 (obj_ne o_cb22 o_D2 (by simp))
              have n_o_D0 := obj_wrote o_D0 hW144 ne_D0_D2
              have n_o_D1 := obj_wrote o_D1 hW144 ne_D1_D2
              have n_o_x8 := obj_wrote o_x8 hW144 (obj_ne o_x8 o_D2 (by simp))
              have n_o_x7 := obj_wrote o_x7 hW144 (obj_ne o_x7 o_D2 (by simp))
              have n_r_x5_0 := r_x5_0.wrote hW144 (r_x5_0.ne o_D2 (by simp))
              replace o_x3 := n_o_x3; clear n_o_x3
              replace o_x4 := n_o_x4; clear n_o_x4
              replace o_x5 := n_o_x5; clear n_o_x5
              replace o_cb22 := n_o_cb22; clear n_o_cb22
              replace o_D0 := n_o_D0; clear n_o_D0
              replace o_D1 := n_o_D1; clear n_o_D1
              replace o_x8 := n_o_x8; clear n_o_x8
              replace o_x7 := n_o_x7; clear n_o_x7
              replace r_x5_0 := n_r_x5_0; clear n_r_x5_0
              replace o_D2 := hW144.here
              refine Lv_mark o_D1 ?_
              intro w145 hW146
              replace hb := hb.trans (hW146.below hs_1)
              replace hs := Nat.le_trans hs (Nat.le_of_eq hW146.size.symm)
              have n_o_x3 := obj_wrote o_x3 hW146 (obj_ne o_x3 o_D1 (by simp))
              have n_o_x4 := obj_wrote o_x4 hW146 (obj_ne o_x4 o_D1 (by simp))
              have n_o_x5 := obj_wrote o_x5 hW146 (obj_ne o_x5 o_D1 (by simp))
              have n_o_cb22 := obj_wrote o_cb22 hW146 (obj_ne o_cb22 o_D1 (by simp))
              have n_o_D0 := obj_wrote o_D0 hW146 ne_D0_D1
              have n_o_x8 := obj_wrote o_x8 hW146 (obj_ne o_x8 o_D1 (by simp))
              have n_o_D2 := obj_wrote o_D2 hW146 (obj_ne o_D2 o_D1 (by simp))
              have n_o_x7 := obj_wrote o_x7 hW146 (obj_ne o_x7 o_D1 (by simp))
              have n_r_x5_0 := r_x5_0.wrote hW146 (r_x5_0.ne o_D1 (by simp))
              replace o_x3 := n_o_x3; clear n_o_x3
              replace o_x4 := n_o_x4; clear n_o_x4
              replace o_x5 := n_o_x5; clear n_o_x5
              replace o_cb22 := n_o_cb22; clear n_o_cb22
              replace o_D0 := n_o_D0; clear n_o_D0
              replace o_x8 := n_o_x8; clear n_o_x8
              replace o_D2 := n_o_D2; clear n_o_D2
              replace o_x7 := n_o_x7; clear n_o_x7
              replace r_x5_0 := n_r_x5_0; clear n_r_x5_0
              replace o_D1 := hW146.here
              refine Lv_mark o_D0 ?_
              intro w147 hW148
              replace hb := hb.trans (hW148.below hs_0)
              replace hs := Nat.le_trans hs (Nat.le_of_eq hW148.size.symm)
              have n_o_x3 := obj_wrote o_x3 hW148 (obj_ne o_x3 o_D0 (by simp))
              have n_o_x4 := obj_wrote o_x4 hW148 (obj_ne o_x4 o_D0 (by simp))
              have n_o_x5 := obj_wrote o_x5 hW148 (obj_ne o_x5 o_D0 (by simp))
              have n_o_cb22 := obj_wrote o_cb22 hW148 (obj_ne o_cb22 o_D0 (by simp))
              have n_o_D1 := obj_wrote o_D1 hW148 (obj_ne o_D1 o_D0 (by simp))
              have n_o_x8 := obj_wrote o_x8 hW148 (obj_ne o_x8 o_D0 (by simp))
              have n_o_D2 := obj_wrote o_D2 hW148 (obj_ne o_D2 o_D0 (by simp))
              have n_o_x7 := obj_wrote o_x7 hW148 (obj_ne o_x7 o_D0 (by simp))
              have n_r_x5_0 := r_x5_0.wrote hW148 (r_x5_0.ne o_D0 (by simp))
              replace o_x3 := n_o_x3; clear n_o_x3
              replace o_x4 := n_o_x4; clear n_o_x4
              replace o_x5 := n_o_x5; clear n_o_x5
              replace o_cb22 := n_o_cb22; clear n_o_cb22
              replace o_D1 := n_o_D1; clear n_o_D1
              replace o_x8 := n_o_x8; clear n_o_x8
              replace o_D2 := n_o_D2; clear n_o_D2
              replace o_x7 := n_o_x7; clear n_o_x7
              replace r_x5_0 := n_r_x5_0; clear n_r_x5_0
              replace o_D0 := hW148.here
              refine Lv_nil [.cell 4 4] [(.bool true)] rfl ⟨⟨⟨b4, 0, none⟩, by kernel_rfl, load_one (by kernel_rfl) (cell_obj o_x4 rfl)⟩, trivial⟩ ?_
              have e0 : true = true := by first | rfl | (exfalso; omega) | (exfalso; simp_all; omega)
              exact ⟨congrArg Value.bool e0, hb⟩
          · intro K c _ x A _ h; exact h.elim
      · intro K c pre0 x0 A hpre hx hsz o_D1
        obtain ⟨pre, hpreq⟩ : ∃ pre, pre = pre0 ++ [x0] := ⟨_, rfl⟩
        rw [← hpreq] at hpre; try rw [← hpreq] at hx
        rcases hx with ⟨W, m, v_x5_0, rfl, o_x3, o_x4, o_x5, o_cb22, o_D0, o_x7, o_x8, r_x5_0, nr_r_x5_0, hb, pw, pn⟩
        have ne_x3_D1 : b1 ≠ w67.heap.size := Nat.ne_of_lt lt_x3_1
        have ne_D1_x3 := ne_x3_D1.symm
        have ne_x4_D1 : b4 ≠ w67.heap.size := Nat.ne_of_lt lt_x4_1
        have ne_D1_x4 := ne_x4_D1.symm
        have ne_x5_D1 : b14 ≠ w67.heap.size := Nat.ne_of_lt lt_x5_1
        have ne_D1_x5 := ne_x5_D1.symm
        have ne_cb22_D1 : cb22 ≠ w67.heap.size := Nat.ne_of_lt lt_cb22_1
        have ne_D1_cb22 := ne_cb22_D1.symm
        have ne_D0_D1 : w31.heap.size ≠ w67.heap.size := Nat.ne_of_lt lt_D0_1
        have ne_D1_D0 := ne_D0_D1.symm
        have ne_x7_D1 : b57 ≠ w67.heap.size := Nat.ne_of_lt lt_x7_1
        have ne_D1_x7 := ne_x7_D1.symm
        have ne_x8_D1 : b64 ≠ w67.heap.size := Nat.ne_of_lt lt_x8_1
        have ne_D1_x8 := ne_x8_D1.symm
        have hs : w.heap.size ≤ _ := hb.size
        refine W_exit (blkQ_exit (thenQ_normal (W_seq (W_region (L_load b64 0 (.int .i64 ((m : Nat) : Int)) (by kernel_rfl) (by kernel_rfl) (cell_obj o_x8 rfl) (L_load b14 0 v_x5_0 (by kernel_rfl) (by kernel_rfl) (cell_obj o_x5 rfl) (L_len 24 30 (W).length v_x5_0 rfl Try.underlying24 (r_x5_0.rd).len (by kernel_rfl) (L_cmp .i64 ((m : Nat) : Int) (((W).length : Nat) : Int) (m ≠ (W).length) rfl (cmpN_ne m ((W).length)) (by kernel_rfl) (by kernel_rfl) ?_ ?_))))))))
        · intro h149
          replace h149 : m ≠ (W).length := by omega
          refine L_mv (L_want (by kernel_rfl) (L_load b57 0 (.int .i64 1) (by kernel_rfl) (by kernel_rfl) (cell_obj o_x7 rfl) (L_want (by kernel_rfl) (L_run (.bool false) (by kernel_rfl) (by kernel_rfl) (L_want (by kernel_rfl) (L_mv (L_want (by kernel_rfl) (L_load b64 0 (.int .i64 ((m : Nat) : Int)) (by kernel_rfl) (by kernel_rfl) (cell_obj o_x8 rfl) (L_want (by kernel_rfl) (L_load b1 0 (.int .i64 most) (by kernel_rfl) (by kernel_rfl) (cell_obj o_x3 rfl) (L_want (by kernel_rfl) (L_cmp .i64 ((m : Nat) : Int) most (((m : Nat) : Int) ≠ most) rfl (cmp_ne ((m : Nat) : Int) most) (by kernel_rfl) (by kernel_rfl) ?_ ?_))))))))))))
          · intro h150
            replace h150 : ((m : Nat) : Int) ≠ most := by omega
            exfalso; omega
          · intro h151
            replace h151 : ((m : Nat) : Int) = most := by omega
            refine L_want (by kernel_rfl) (L_pickF (by kernel_rfl) (L_pickT (by kernel_rfl) (L_nil (thenQ_normal (W_false (by kernel_rfl) (W_skip (blkQ_normal (thenQ_normal (W_seq (W_seq (W_region (L_load b57 0 (.int .i64 1) (by kernel_rfl) (by kernel_rfl) (cell_obj o_x7 rfl) (L_nil (thenQ_normal (W_region (L_new (fun b => .pointer (some ⟨b, 0, none⟩)) (.cells [(.int .i64 0)].toArray 3 (0, 0)) (by kernel_rfl) (by kernel_rfl) ?_))))))))))))))))
            intro b152 w153 hN154
            have ne_x3_x7 : b1 ≠ b152 := by have := obj_lt o_x3; have := hN154.num; omega
            have ne_x7_x3 := ne_x3_x7.symm
            have ne_x4_x7 : b4 ≠ b152 := by have := obj_lt o_x4; have := hN154.num; omega
            have ne_x7_x4 := ne_x4_x7.symm
            have ne_x5_x7 : b14 ≠ b152 := by have := obj_lt o_x5; have := hN154.num; omega
            have ne_x7_x5 := ne_x5_x7.symm
            have ne_cb22_x7 : cb22 ≠ b152 := by have := obj_lt o_cb22; have := hN154.num; omega
            have ne_x7_cb22 := ne_cb22_x7.symm
            have ne_D0_x7 : w31.heap.size ≠ b152 := by have := obj_lt o_D0; have := hN154.num; omega
            have ne_x7_D0 := ne_D0_x7.symm
            have ne_x8_x7 : b64 ≠ b152 := by have := obj_lt o_x8; have := hN154.num; omega
            have ne_x7_x8 := ne_x8_x7.symm
            have ne_D1_x7 : w67.heap.size ≠ b152 := by have := obj_lt o_D1; have := hN154.num; omega
            have ne_x7_D1 := ne_D1_x7.symm
            have g_x7 : w.heap.size ≤ b152 := by rw [hN154.num]; exact hs
            replace hb := hb.trans (hN154.below.mono hs)
            replace hs := Nat.le_trans hs (hN154.below.size)
            replace o_x3 := obj_below o_x3 hN154.below
            replace o_x4 := obj_below o_x4 hN154.below
            replace o_x5 := obj_below o_x5 hN154.below
            replace o_cb22 := obj_below o_cb22 hN154.below
            replace o_D0 := obj_below o_D0 hN154.below
            replace o_x8 := obj_below o_x8 hN154.below
            replace o_D1 := obj_below o_D1 hN154.below
            replace r_x5_0 := r_x5_0.below hN154.below
            have o_x7 := hN154.here
            refine L_store b152 0 (.int .i64 1) [(.int .i64 0)] [(.int .i64 1)] 3 (by kernel_rfl) (by kernel_rfl) rfl (by kernel_rfl) o_x7 (by simp) rfl ?_
            intro w155 hW156
            replace hb := hb.trans (hW156.below g_x7)
            replace hs := Nat.le_trans hs (Nat.le_of_eq hW156.size.symm)
            have n_o_x3 := obj_wrote o_x3 hW156 ne_x3_x7
            have n_o_x4 := obj_wrote o_x4 hW156 (obj_ne o_x4 o_x7 (by simp))
            have n_o_x5 := obj_wrote o_x5 hW156 (obj_ne o_x5 o_x7 (by simp))
            have n_o_cb22 := obj_wrote o_cb22 hW156 (obj_ne o_cb22 o_x7 (by simp))
            have n_o_D0 := obj_wrote o_D0 hW156 (obj_ne o_D0 o_x7 (by simp))
            have n_o_x8 := obj_wrote o_x8 hW156 ne_x8_x7
            have n_o_D1 := obj_wrote o_D1 hW156 (obj_ne o_D1 o_x7 (by simp))
            have n_r_x5_0 := r_x5_0.wrote hW156 (r_x5_0.ne o_x7 (by simp))
            replace o_x3 := n_o_x3; clear n_o_x3
            replace o_x4 := n_o_x4; clear n_o_x4
            replace o_x5 := n_o_x5; clear n_o_x5
            replace o_cb22 := n_o_cb22; clear n_o_cb22
            replace o_D0 := n_o_D0; clear n_o_D0
            replace o_x8 := n_o_x8; clear n_o_x8
            replace o_D1 := n_o_D1; clear n_o_D1
            replace r_x5_0 := n_r_x5_0; clear n_r_x5_0
            replace o_x7 := hW156.here
            refine L_nil (thenQ_normal (W_region (L_load b152 0 (.int .i64 1) (by kernel_rfl) (by kernel_rfl) (cell_obj o_x7 rfl) (L_addN 1 1 (by omega) (by kernel_rfl) (by kernel_rfl) (L_store b152 0 (.int .i64 2) [(.int .i64 1)] [(.int .i64 2)] 3 (by kernel_rfl) (by kernel_rfl) rfl (by kernel_rfl) o_x7 (by simp) rfl ?_)))))
            intro w157 hW158
            replace hb := hb.trans (hW158.below g_x7)
            replace hs := Nat.le_trans hs (Nat.le_of_eq hW158.size.symm)
            have n_o_x3 := obj_wrote o_x3 hW158 ne_x3_x7
            have n_o_x4 := obj_wrote o_x4 hW158 (obj_ne o_x4 o_x7 (by simp))
            have n_o_x5 := obj_wrote o_x5 hW158 (obj_ne o_x5 o_x7 (by simp))
            have n_o_cb22 := obj_wrote o_cb22 hW158 (obj_ne o_cb22 o_x7 (by simp))
            have n_o_D0 := obj_wrote o_D0 hW158 (obj_ne o_D0 o_x7 (by simp))
            have n_o_x8 := obj_wrote o_x8 hW158 ne_x8_x7
            have n_o_D1 := obj_wrote o_D1 hW158 (obj_ne o_D1 o_x7 (by simp))
            have n_r_x5_0 := r_x5_0.wrote hW158 (r_x5_0.ne o_x7 (by simp))
            replace o_x3 := n_o_x3; clear n_o_x3
            replace o_x4 := n_o_x4; clear n_o_x4
            replace o_x5 := n_o_x5; clear n_o_x5
            replace o_cb22 := n_o_cb22; clear n_o_cb22
            replace o_D0 := n_o_D0; clear n_o_D0
            replace o_x8 := n_o_x8; clear n_o_x8
            replace o_D1 := n_o_D1; clear n_o_D1
            replace r_x5_0 := n_r_x5_0; clear n_r_x5_0
            replace o_x7 := hW158.here
            refine L_nil (thenQ_round (W_seq (W_seq (W_region (L_load b152 0 (.int .i64 2) (by kernel_rfl) (by kernel_rfl) (cell_obj o_x7 rfl) (L_run (.bool true) (by kernel_rfl) (by kernel_rfl) (L_nil (thenQ_normal (W_true (by kernel_rfl) (W_skip (thenQ_normal (W_seq (W_block (W_seq (W_region (L_new (fun b => .pointer (some ⟨b, 0, none⟩)) (.cells [(.int .i64 0)].toArray 3 (0, 0)) (by kernel_rfl) (by kernel_rfl) ?_))))))))))))))))
            intro b159 w160 hN161
            have ne_x3_x8 : b1 ≠ b159 := by have := obj_lt o_x3; have := hN161.num; omega
            have ne_x8_x3 := ne_x3_x8.symm
            have ne_x4_x8 : b4 ≠ b159 := by have := obj_lt o_x4; have := hN161.num; omega
            have ne_x8_x4 := ne_x4_x8.symm
            have ne_x5_x8 : b14 ≠ b159 := by have := obj_lt o_x5; have := hN161.num; omega
            have ne_x8_x5 := ne_x5_x8.symm
            have ne_cb22_x8 : cb22 ≠ b159 := by have := obj_lt o_cb22; have := hN161.num; omega
            have ne_x8_cb22 := ne_cb22_x8.symm
            have ne_D0_x8 : w31.heap.size ≠ b159 := by have := obj_lt o_D0; have := hN161.num; omega
            have ne_x8_D0 := ne_D0_x8.symm
            have ne_D1_x8 : w67.heap.size ≠ b159 := by have := obj_lt o_D1; have := hN161.num; omega
            have ne_x8_D1 := ne_D1_x8.symm
            have ne_x7_x8 : b152 ≠ b159 := by have := obj_lt o_x7; have := hN161.num; omega
            have ne_x8_x7 := ne_x7_x8.symm
            have g_x8 : w.heap.size ≤ b159 := by rw [hN161.num]; exact hs
            replace hb := hb.trans (hN161.below.mono hs)
            replace hs := Nat.le_trans hs (hN161.below.size)
            replace o_x3 := obj_below o_x3 hN161.below
            replace o_x4 := obj_below o_x4 hN161.below
            replace o_x5 := obj_below o_x5 hN161.below
            replace o_cb22 := obj_below o_cb22 hN161.below
            replace o_D0 := obj_below o_D0 hN161.below
            replace o_D1 := obj_below o_D1 hN161.below
            replace o_x7 := obj_below o_x7 hN161.below
            replace r_x5_0 := r_x5_0.below hN161.below
            have o_x8 := hN161.here
            refine L_store b159 0 (.int .i64 0) [(.int .i64 0)] [(.int .i64 0)] 3 (by kernel_rfl) (by kernel_rfl) rfl (by kernel_rfl) o_x8 (by simp) rfl ?_
            intro w162 hW163
            replace hb := hb.trans (hW163.below g_x8)
            replace hs := Nat.le_trans hs (Nat.le_of_eq hW163.size.symm)
            have n_o_x3 := obj_wrote o_x3 hW163 ne_x3_x8
            have n_o_x4 := obj_wrote o_x4 hW163 (obj_ne o_x4 o_x8 (by simp))
            have n_o_x5 := obj_wrote o_x5 hW163 (obj_ne o_x5 o_x8 (by simp))
            have n_o_cb22 := obj_wrote o_cb22 hW163 (obj_ne o_cb22 o_x8 (by simp))
            have n_o_D0 := obj_wrote o_D0 hW163 (obj_ne o_D0 o_x8 (by simp))
            have n_o_D1 := obj_wrote o_D1 hW163 (obj_ne o_D1 o_x8 (by simp))
            have n_o_x7 := obj_wrote o_x7 hW163 ne_x7_x8
            have n_r_x5_0 := r_x5_0.wrote hW163 (r_x5_0.ne o_x8 (by simp))
            replace o_x3 := n_o_x3; clear n_o_x3
            replace o_x4 := n_o_x4; clear n_o_x4
            replace o_x5 := n_o_x5; clear n_o_x5
            replace o_cb22 := n_o_cb22; clear n_o_cb22
            replace o_D0 := n_o_D0; clear n_o_D0
            replace o_D1 := n_o_D1; clear n_o_D1
            replace o_x7 := n_o_x7; clear n_o_x7
            replace r_x5_0 := n_r_x5_0; clear n_r_x5_0
            replace o_x8 := hW163.here
            refine L_nil (thenQ_normal (W_seq (W_seq (W_region (L_mv (L_nil (thenQ_normal (W_block ?_))))))))
            have lt_x3_2 : b1 < w162.heap.size := obj_lt o_x3
            have lt_x4_2 : b4 < w162.heap.size := obj_lt o_x4
            have lt_x5_2 : b14 < w162.heap.size := obj_lt o_x5
            have lt_cb22_2 : cb22 < w162.heap.size := obj_lt o_cb22
            have lt_D0_2 : w31.heap.size < w162.heap.size := obj_lt o_D0
            have lt_D1_2 : w67.heap.size < w162.heap.size := obj_lt o_D1
            have lt_x7_2 : b152 < w162.heap.size := obj_lt o_x7
            have lt_x8_2 : b159 < w162.heap.size := obj_lt o_x8
            have hs_2 := hs
            have hb_2 := hb
            refine W_range 40 [(.pointer (some ⟨cb22, 0, none⟩))] (wordsOf s) (by kernel_rfl) (fun _ _ => rfl) (it_words_Each_1 cb22 s (by omega)) o_cb22 ((fun D A B h hc hd => obj_ch h hc (fun h => Nat.not_lt.2 (hd _ h) lt_cb22_2))) (by intro x; rfl) (fun K pre A => ∃ (W : List (Int × List UInt8)) (n : Nat) (v_x5_0 : Value), (A.heap[b1]? = some (.cells [(.int .i64 most)].toArray 3 (0, 0))) ∧ (A.heap[b4]? = some (.cells [(.bool false)].toArray 4 (0, 0))) ∧ (A.heap[b14]? = some (.cells [v_x5_0].toArray 24 (0, 0))) ∧ (A.heap[cb22]? = some (.cells [(S s)].toArray 9 (0, 0))) ∧ (A.heap[w31.heap.size]? = some (.deferred (some []))) ∧ (A.heap[w67.heap.size]? = some (.deferred (some []))) ∧ (A.heap[b152]? = some (.cells [(.int .i64 2)].toArray 3 (0, 0))) ∧ (A.heap[b159]? = some (.cells [(.int .i64 ((n : Nat) : Int))].toArray 3 (0, 0))) ∧ (Row A w.heap.size 30 2 encWord v_x5_0 W) ∧ (∀ g, Value.ownBlock v_x5_0 = some g → ¬ Iv w162.heap.size K g) ∧ (Below w.heap.size w A) ∧ (W = wordsOf s) ∧ (n = pre.length)) (fun K c pre A => False) ?_ ?_ ?_ ?_ ?_ ?_
            · intro A hA
              exact ⟨W, 0, v_x5_0, obj_below o_x3 hA, obj_below o_x4 hA, obj_below o_x5 hA, obj_below o_cb22 hA, obj_below o_D0 hA, obj_below o_D1 hA, obj_below o_x7 hA, obj_below o_x8 hA, r_x5_0.below hA, nr_old r_x5_0 _, hb.trans (hA.mono hs), by exact pw, by rfl⟩
            · rintro K pre A B ⟨W, n, v_x5_0, o_x3, o_x4, o_x5, o_cb22, o_D0, o_D1, o_x7, o_x8, r_x5_0, nr_r_x5_0, hb, pw, pn⟩ hc
              exact ⟨W, n, v_x5_0, obj_ch o_x3 hc (fun h => Nat.not_lt.2 h.1 lt_x3_2), obj_ch o_x4 hc (fun h => Nat.not_lt.2 h.1 lt_x4_2), obj_ch o_x5 hc (fun h => Nat.not_lt.2 h.1 lt_x5_2), obj_ch o_cb22 hc (fun h => Nat.not_lt.2 h.1 lt_cb22_2), obj_ch o_D0 hc (fun h => Nat.not_lt.2 h.1 lt_D0_2), obj_ch o_D1 hc (fun h => Nat.not_lt.2 h.1 lt_D1_2), obj_ch o_x7 hc (fun h => Nat.not_lt.2 h.1 lt_x7_2), obj_ch o_x8 hc (fun h => Nat.not_lt.2 h.1 lt_x8_2), r_x5_0.ch hc nr_r_x5_0, nr_r_x5_0, hc.below hb hb.size (fun k h => Nat.le_trans hs_2 h.1), pw, pn⟩
            · intro K c _ A B h hc; exact h.elim
            · intro l K pre x A hi hN hK0 hK hpre
              obtain ⟨W, n, v_x5_0, o_x3, o_x4, o_x5, o_cb22, o_D0, o_D1, o_x7, o_x8, r_x5_0, nr_r_x5_0, hb, pw, pn⟩ := hi
              have hs := hb.size
              have hk := Kp.refl (w162.heap.size) K A
              have nv_x3 : ¬ Iv (w162.heap.size) K b1 := fun h => Nat.not_lt.2 h.1 lt_x3_2
              have nv_x4 : ¬ Iv (w162.heap.size) K b4 := fun h => Nat.not_lt.2 h.1 lt_x4_2
              have nv_x5 : ¬ Iv (w162.heap.size) K b14 := fun h => Nat.not_lt.2 h.1 lt_x5_2
              have nv_cb22 : ¬ Iv (w162.heap.size) K cb22 := fun h => Nat.not_lt.2 h.1 lt_cb22_2
              have nv_D0 : ¬ Iv (w162.heap.size) K w31.heap.size := fun h => Nat.not_lt.2 h.1 lt_D0_2
              have nv_D1 : ¬ Iv (w162.heap.size) K w67.heap.size := fun h => Nat.not_lt.2 h.1 lt_D1_2
              have nv_x7 : ¬ Iv (w162.heap.size) K b152 := fun h => Nat.not_lt.2 h.1 lt_x7_2
              have nv_x8 : ¬ Iv (w162.heap.size) K b159 := fun h => Nat.not_lt.2 h.1 lt_x8_2
              replace o_cb22 := hN
              have hat := pre_at hpre
              have hlt := pre_lt hpre
              have hwl := words_le s
              have hWl : W.length = (wordsOf s).length := by rw [pw]
              refine W_seq (W_region (L_as (L_nil (thenQ_normal (W_region (L_as (L_nil ?_)))))))
              refine thenQ_normal ⟨hk, ?_⟩
              intro w164 hc165
              replace o_x3 := obj_ch o_x3 hc165 nv_x3
              replace o_x4 := obj_ch o_x4 hc165 nv_x4
              replace o_x5 := obj_ch o_x5 hc165 nv_x5
              replace o_cb22 := obj_ch o_cb22 hc165 nv_cb22
              replace o_D0 := obj_ch o_D0 hc165 nv_D0
              replace o_D1 := obj_ch o_D1 hc165 nv_D1
              replace o_x7 := obj_ch o_x7 hc165 nv_x7
              replace o_x8 := obj_ch o_x8 hc165 nv_x8
              replace r_x5_0 := r_x5_0.ch hc165 nr_r_x5_0
              replace hb := hc165.below hb hs (fun k h => Nat.le_trans hs_2 h.1)
              replace hs := hb.size
              replace hK := Nat.le_trans hK hc165.size
              replace hk := Kp.refl (w162.heap.size) K w164
              refine W_block (W_seq (W_seq (W_region (L_load b159 0 (.int .i64 ((n : Nat) : Int)) (by kernel_rfl) (by kernel_rfl) (cell_obj o_x8 rfl) (L_load b14 0 v_x5_0 (by kernel_rfl) (by kernel_rfl) (cell_obj o_x5 rfl) (L_len 24 30 (W).length v_x5_0 rfl Try.underlying24 (r_x5_0.rd).len (by kernel_rfl) (L_cmp .i64 ((n : Nat) : Int) (((W).length : Nat) : Int) ((W).length ≤ n) rfl (cmpN_ge n ((W).length)) (by kernel_rfl) (by kernel_rfl) ?_ ?_)))))))
              · intro h166
                replace h166 : (W).length ≤ n := by omega
                exfalso; omega
              · intro h167
                replace h167 : n < (W).length := by omega
                refine L_mv (L_want (by kernel_rfl) (L_mv (L_want (by kernel_rfl) (L_load b14 0 v_x5_0 (by kernel_rfl) (by kernel_rfl) (cell_obj o_x5 rfl) (L_want (by kernel_rfl) (L_load b159 0 (.int .i64 ((n : Nat) : Int)) (by kernel_rfl) (by kernel_rfl) (cell_obj o_x8 rfl) (L_want (by kernel_rfl) ?_)))))))
                obtain ⟨x168, hx169⟩ := get_some W n (by omega)
                have hz := (r_x5_0.rd).at (k := 2) (fun _ => rfl) hx169
                obtain ⟨g170, off171, hl172, hc173⟩ := hz
                have he : x168 = x := by rw [pw, pn] at hx169; exact Option.some.inj (hx169.symm.trans hat)
                refine L_ixaddr (k := .i64) v_x5_0 n _ g170 off171 el24 hl172 (by omega) (by kernel_rfl) (by kernel_rfl) (L_want (by kernel_rfl) (L_run (.pointer (some ⟨g170, (off171 + n * 2), none⟩)) (by kernel_rfl) (by kernel_rfl) (L_want (by kernel_rfl) (L_load g170 (off171 + n * 2) (.int .i64 x168.1) (by kernel_rfl) (by kernel_rfl) (hc173 0 _ rfl) (L_want (by kernel_rfl) (L_cmp .i64 x.1 x168.1 (x.1 ≠ x168.1) rfl (cmp_ne x.1 x168.1) (by kernel_rfl) (by kernel_rfl) ?_ ?_))))))
                · intro h174
                  replace h174 : x.1 ≠ x168.1 := by omega
                  exfalso; exact h174 (by rw [he])
                · intro h175
                  replace h175 : x.1 = x168.1 := by omega
                  refine L_pickF (by kernel_rfl) (L_mv (L_want (by kernel_rfl) (L_mv (L_want (by kernel_rfl) (L_load b14 0 v_x5_0 (by kernel_rfl) (by kernel_rfl) (cell_obj o_x5 rfl) (L_want (by kernel_rfl) (L_load b159 0 (.int .i64 ((n : Nat) : Int)) (by kernel_rfl) (by kernel_rfl) (cell_obj o_x8 rfl) (L_want (by kernel_rfl) ?_))))))))
                  have hz := (r_x5_0.rd).at (k := 2) (fun _ => rfl) hx169
                  obtain ⟨g178, off179, hl180, hc181⟩ := hz
                  refine L_ixaddr (k := .i64) v_x5_0 n _ g178 off179 el24 hl180 (by omega) (by kernel_rfl) (by kernel_rfl) (L_want (by kernel_rfl) (L_run (.pointer (some ⟨g178, ((off179 + n * 2) + 1), none⟩)) (by kernel_rfl) (by kernel_rfl) (L_want (by kernel_rfl) (L_load g178 ((off179 + n * 2) + 1) (S x168.2) (by kernel_rfl) (by kernel_rfl) (hc181 1 _ rfl) (L_want (by kernel_rfl) (L_sne x.2 x168.2 rfl (by kernel_rfl) (by kernel_rfl) ?_ ?_))))))
                  · intro h182
                    exfalso; exact h182 (by rw [he])
                  · intro h183
                    refine L_pickF (by kernel_rfl) (L_nil (thenQ_normal (W_false (by kernel_rfl) (W_skip (thenQ_normal (W_seq (W_region (L_load b159 0 (.int .i64 ((n : Nat) : Int)) (by kernel_rfl) (by kernel_rfl) (cell_obj o_x8 rfl) (L_addN n 1 (by omega) (by kernel_rfl) (by kernel_rfl) (L_store b159 0 (.int .i64 (((n + 1) : Nat) : Int)) [(.int .i64 ((n : Nat) : Int))] [(.int .i64 (((n + 1) : Nat) : Int))] 3 (by kernel_rfl) (by kernel_rfl) rfl (by kernel_rfl) o_x8 (by simp) rfl ?_))))))))))
                    intro w184 hW185
                    replace hb := hb.trans (hW185.below g_x8)
                    replace hk := hk.ch (Ch.of_wrote hW185) hK (fun k e h => nv_x8 (e ▸ h))
                    replace hK := Nat.le_trans hK (Nat.le_of_eq hW185.size.symm)
                    replace hs := Nat.le_trans hs (Nat.le_of_eq hW185.size.symm)
                    have n_o_x3 := obj_wrote o_x3 hW185 ne_x3_x8
                    have n_o_x4 := obj_wrote o_x4 hW185 (obj_ne o_x4 o_x8 (by simp))
                    have n_o_x5 := obj_wrote o_x5 hW185 (obj_ne o_x5 o_x8 (by simp))
                    have n_o_cb22 := obj_wrote o_cb22 hW185 (obj_ne o_cb22 o_x8 (by simp))
                    have n_o_D0 := obj_wrote o_D0 hW185 (obj_ne o_D0 o_x8 (by simp))
                    have n_o_D1 := obj_wrote o_D1 hW185 (obj_ne o_D1 o_x8 (by simp))
                    have n_o_x7 := obj_wrote o_x7 hW185 ne_x7_x8
                    have n_r_x5_0 := r_x5_0.wrote hW185 (r_x5_0.ne o_x8 (by simp))
                    replace o_x3 := n_o_x3; clear n_o_x3
                    replace o_x4 := n_o_x4; clear n_o_x4
                    replace o_x5 := n_o_x5; clear n_o_x5
                    replace o_cb22 := n_o_cb22; clear n_o_cb22
                    replace o_D0 := n_o_D0; clear n_o_D0
                    replace o_D1 := n_o_D1; clear n_o_D1
                    replace o_x7 := n_o_x7; clear n_o_x7
                    replace r_x5_0 := n_r_x5_0; clear n_r_x5_0
                    replace o_x8 := hW185.here
                    refine L_nil (thenQ_normal (W_seq (W_region (L_load b152 0 (.int .i64 2) (by kernel_rfl) (by kernel_rfl) (cell_obj o_x7 rfl) (L_run (.bool false) (by kernel_rfl) (by kernel_rfl) (L_mv (L_skip (by kernel_rfl) (L_skip (by kernel_rfl) (L_skip (by kernel_rfl) (L_pickF (by kernel_rfl) (L_nil (thenQ_normal (W_false (by kernel_rfl) (W_skip (blkQ_normal ?_)))))))))))))))
                    refine round_normal hk o_cb22 ⟨W, (n + 1), v_x5_0, o_x3, o_x4, o_x5, o_cb22, o_D0, o_D1, o_x7, o_x8, r_x5_0, nr_r_x5_0, hb, ?_, ?_⟩
                    · exact pw
                    · simp [pn]
            · intro K A hi hsz o_D2
              obtain ⟨W, n, v_x5_0, o_x3, o_x4, o_x5, o_cb22, o_D0, o_D1, o_x7, o_x8, r_x5_0, nr_r_x5_0, hb, pw, pn⟩ := hi
              have ne_x3_D2 : b1 ≠ w162.heap.size := Nat.ne_of_lt lt_x3_2
              have ne_D2_x3 := ne_x3_D2.symm
              have ne_x4_D2 : b4 ≠ w162.heap.size := Nat.ne_of_lt lt_x4_2
              have ne_D2_x4 := ne_x4_D2.symm
              have ne_x5_D2 : b14 ≠ w162.heap.size := Nat.ne_of_lt lt_x5_2
              have ne_D2_x5 := ne_x5_D2.symm
              have ne_cb22_D2 : cb22 ≠ w162.heap.size := Nat.ne_of_lt lt_cb22_2
              have ne_D2_cb22 := ne_cb22_D2.symm
              have ne_D0_D2 : w31.heap.size ≠ w162.heap.size := Nat.ne_of_lt lt_D0_2
              have ne_D2_D0 := ne_D0_D2.symm
              have ne_D1_D2 : w67.heap.size ≠ w162.heap.size := Nat.ne_of_lt lt_D1_2
              have ne_D2_D1 := ne_D1_D2.symm
              have ne_x7_D2 : b152 ≠ w162.heap.size := Nat.ne_of_lt lt_x7_2
              have ne_D2_x7 := ne_x7_D2.symm
              have ne_x8_D2 : b159 ≠ w162.heap.size := Nat.ne_of_lt lt_x8_2
              have ne_D2_x8 := ne_x8_D2.symm
              have hs : w.heap.size ≤ _ := hb.size
              refine blkQ_normal (thenQ_normal (W_seq (W_region (L_load b159 0 (.int .i64 ((n : Nat) : Int)) (by kernel_rfl) (by kernel_rfl) (cell_obj o_x8 rfl) (L_load b14 0 v_x5_0 (by kernel_rfl) (by kernel_rfl) (cell_obj o_x5 rfl) (L_len 24 30 (W).length v_x5_0 rfl Try.underlying24 (r_x5_0.rd).len (by kernel_rfl) (L_cmp .i64 ((n : Nat) : Int) (((W).length : Nat) : Int) (n ≠ (W).length) rfl (cmpN_ne n ((W).length)) (by kernel_rfl) (by kernel_rfl) ?_ ?_)))))))
              · intro h186
                replace h186 : n ≠ (W).length := by omega
                exfalso; rw [pw] at h186; omega
              · intro h187
                replace h187 : n = (W).length := by omega
                refine L_mv (L_skip (by kernel_rfl) (L_skip (by kernel_rfl) (L_skip (by kernel_rfl) (L_skip (by kernel_rfl) (L_skip (by kernel_rfl) (L_skip (by kernel_rfl) (L_skip (by kernel_rfl) (L_pickF (by kernel_rfl) (L_nil (thenQ_normal (W_false (by kernel_rfl) (W_skip (blkQ_normal (thenQ_normal (W_seq (W_seq (W_region (L_load b152 0 (.int .i64 2) (by kernel_rfl) (by kernel_rfl) (cell_obj o_x7 rfl) (L_nil (thenQ_normal (W_region (L_new (fun b => .pointer (some ⟨b, 0, none⟩)) (.cells [(.int .i64 0)].toArray 3 (0, 0)) (by kernel_rfl) (by kernel_rfl) ?_))))))))))))))))))))))
                intro b188 w189 hN190
                have ne_x3_x7 : b1 ≠ b188 := by have := obj_lt o_x3; have := hN190.num; omega
                have ne_x7_x3 := ne_x3_x7.symm
                have ne_x4_x7 : b4 ≠ b188 := by have := obj_lt o_x4; have := hN190.num; omega
                have ne_x7_x4 := ne_x4_x7.symm
                have ne_x5_x7 : b14 ≠ b188 := by have := obj_lt o_x5; have := hN190.num; omega
                have ne_x7_x5 := ne_x5_x7.symm
                have ne_cb22_x7 : cb22 ≠ b188 := by have := obj_lt o_cb22; have := hN190.num; omega
                have ne_x7_cb22 := ne_cb22_x7.symm
                have ne_D0_x7 : w31.heap.size ≠ b188 := by have := obj_lt o_D0; have := hN190.num; omega
                have ne_x7_D0 := ne_D0_x7.symm
                have ne_D1_x7 : w67.heap.size ≠ b188 := by have := obj_lt o_D1; have := hN190.num; omega
                have ne_x7_D1 := ne_D1_x7.symm
                have ne_x8_x7 : b159 ≠ b188 := by have := obj_lt o_x8; have := hN190.num; omega
                have ne_x7_x8 := ne_x8_x7.symm
                have ne_D2_x7 : w162.heap.size ≠ b188 := by have := obj_lt o_D2; have := hN190.num; omega
                have ne_x7_D2 := ne_D2_x7.symm
                have g_x7 : w.heap.size ≤ b188 := by rw [hN190.num]; exact hs
                replace hb := hb.trans (hN190.below.mono hs)
                replace hs := Nat.le_trans hs (hN190.below.size)
                replace o_x3 := obj_below o_x3 hN190.below
                replace o_x4 := obj_below o_x4 hN190.below
                replace o_x5 := obj_below o_x5 hN190.below
                replace o_cb22 := obj_below o_cb22 hN190.below
                replace o_D0 := obj_below o_D0 hN190.below
                replace o_D1 := obj_below o_D1 hN190.below
                replace o_x8 := obj_below o_x8 hN190.below
                replace o_D2 := obj_below o_D2 hN190.below
                replace r_x5_0 := r_x5_0.below hN190.below
                have o_x7 := hN190.here
                refine L_store b188 0 (.int .i64 2) [(.int .i64 0)] [(.int .i64 2)] 3 (by kernel_rfl) (by kernel_rfl) rfl (by kernel_rfl) o_x7 (by simp) rfl ?_
                intro w191 hW192
                replace hb := hb.trans (hW192.below g_x7)
                replace hs := Nat.le_trans hs (Nat.le_of_eq hW192.size.symm)
                have n_o_x3 := obj_wrote o_x3 hW192 ne_x3_x7
                have n_o_x4 := obj_wrote o_x4 hW192 (obj_ne o_x4 o_x7 (by simp))
                have n_o_x5 := obj_wrote o_x5 hW192 (obj_ne o_x5 o_x7 (by simp))
                have n_o_cb22 := obj_wrote o_cb22 hW192 (obj_ne o_cb22 o_x7 (by simp))
                have n_o_D0 := obj_wrote o_D0 hW192 (obj_ne o_D0 o_x7 (by simp))
                have n_o_D1 := obj_wrote o_D1 hW192 (obj_ne o_D1 o_x7 (by simp))
                have n_o_x8 := obj_wrote o_x8 hW192 ne_x8_x7
                have n_o_D2 := obj_wrote o_D2 hW192 (obj_ne o_D2 o_x7 (by simp))
                have n_r_x5_0 := r_x5_0.wrote hW192 (r_x5_0.ne o_x7 (by simp))
                replace o_x3 := n_o_x3; clear n_o_x3
                replace o_x4 := n_o_x4; clear n_o_x4
                replace o_x5 := n_o_x5; clear n_o_x5
                replace o_cb22 := n_o_cb22; clear n_o_cb22
                replace o_D0 := n_o_D0; clear n_o_D0
                replace o_D1 := n_o_D1; clear n_o_D1
                replace o_x8 := n_o_x8; clear n_o_x8
                replace o_D2 := n_o_D2; clear n_o_D2
                replace r_x5_0 := n_r_x5_0; clear n_r_x5_0
                replace o_x7 := hW192.here
                refine L_nil (thenQ_normal (W_region (L_load b188 0 (.int .i64 2) (by kernel_rfl) (by kernel_rfl) (cell_obj o_x7 rfl) (L_addN 2 1 (by omega) (by kernel_rfl) (by kernel_rfl) (L_store b188 0 (.int .i64 3) [(.int .i64 2)] [(.int .i64 3)] 3 (by kernel_rfl) (by kernel_rfl) rfl (by kernel_rfl) o_x7 (by simp) rfl ?_)))))
                intro w193 hW194
                replace hb := hb.trans (hW194.below g_x7)
                replace hs := Nat.le_trans hs (Nat.le_of_eq hW194.size.symm)
                have n_o_x3 := obj_wrote o_x3 hW194 ne_x3_x7
                have n_o_x4 := obj_wrote o_x4 hW194 (obj_ne o_x4 o_x7 (by simp))
                have n_o_x5 := obj_wrote o_x5 hW194 (obj_ne o_x5 o_x7 (by simp))
                have n_o_cb22 := obj_wrote o_cb22 hW194 (obj_ne o_cb22 o_x7 (by simp))
                have n_o_D0 := obj_wrote o_D0 hW194 (obj_ne o_D0 o_x7 (by simp))
                have n_o_D1 := obj_wrote o_D1 hW194 (obj_ne o_D1 o_x7 (by simp))
                have n_o_x8 := obj_wrote o_x8 hW194 ne_x8_x7
                have n_o_D2 := obj_wrote o_D2 hW194 (obj_ne o_D2 o_x7 (by simp))
                have n_r_x5_0 := r_x5_0.wrote hW194 (r_x5_0.ne o_x7 (by simp))
                replace o_x3 := n_o_x3; clear n_o_x3
                replace o_x4 := n_o_x4; clear n_o_x4
                replace o_x5 := n_o_x5; clear n_o_x5
                replace o_cb22 := n_o_cb22; clear n_o_cb22
                replace o_D0 := n_o_D0; clear n_o_D0
                replace o_D1 := n_o_D1; clear n_o_D1
                replace o_x8 := n_o_x8; clear n_o_x8
                replace o_D2 := n_o_D2; clear n_o_D2
                replace r_x5_0 := n_r_x5_0; clear n_r_x5_0
                replace o_x7 := hW194.here
                refine L_nil (thenQ_round (W_seq (W_seq (W_region (L_load b188 0 (.int .i64 3) (by kernel_rfl) (by kernel_rfl) (cell_obj o_x7 rfl) (L_run (.bool false) (by kernel_rfl) (by kernel_rfl) (L_nil (thenQ_normal (W_false (by kernel_rfl) (W_exit (thenQ_exit (thenQ_exit (blkQ_exit (thenQ_normal (W_seq (W_region (L_call 15 [] (by kernel_rfl) (by kernel_rfl) (c_furrowlaw05_awake  _ ) ?_)))))))))))))))))
                rintro _ w195 ⟨rfl, hB196⟩
                replace hb := hb.trans (hB196.mono hs)
                replace hs := Nat.le_trans hs (hB196.size)
                replace o_x3 := obj_below o_x3 hB196
                replace o_x4 := obj_below o_x4 hB196
                replace o_x5 := obj_below o_x5 hB196
                replace o_cb22 := obj_below o_cb22 hB196
                replace o_D0 := obj_below o_D0 hB196
                replace o_D1 := obj_below o_D1 hB196
                replace o_x8 := obj_below o_x8 hB196
                replace o_D2 := obj_below o_D2 hB196
                replace o_x7 := obj_below o_x7 hB196
                replace r_x5_0 := r_x5_0.below hB196
                refine L_store b4 0 (.bool true) [(.bool false)] [(.bool true)] 4 (by kernel_rfl) (by kernel_rfl) rfl (by kernel_rfl) o_x4 (by simp) rfl ?_
                intro w198 hW199
                replace hb := hb.trans (hW199.below g_x4)
                replace hs := Nat.le_trans hs (Nat.le_of_eq hW199.size.symm)
                have n_o_x3 := obj_wrote o_x3 hW199 (obj_ne o_x3 o_x4 (by simp))
                have n_o_x5 := obj_wrote o_x5 hW199 (obj_ne o_x5 o_x4 (by simp))
                have n_o_cb22 := obj_wrote o_cb22 hW199 (obj_ne o_cb22 o_x4 (by simp))
                have n_o_D0 := obj_wrote o_D0 hW199 (obj_ne o_D0 o_x4 (by simp))
                have n_o_D1 := obj_wrote o_D1 hW199 (obj_ne o_D1 o_x4 (by simp))
                have n_o_x8 := obj_wrote o_x8 hW199 (obj_ne o_x8 o_x4 (by simp))
                have n_o_D2 := obj_wrote o_D2 hW199 (obj_ne o_D2 o_x4 (by simp))
                have n_o_x7 := obj_wrote o_x7 hW199 (obj_ne o_x7 o_x4 (by simp))
                have n_r_x5_0 := r_x5_0.wrote hW199 (r_x5_0.ne o_x4 (by simp))
                replace o_x3 := n_o_x3; clear n_o_x3
                replace o_x5 := n_o_x5; clear n_o_x5
                replace o_cb22 := n_o_cb22; clear n_o_cb22
                replace o_D0 := n_o_D0; clear n_o_D0
                replace o_D1 := n_o_D1; clear n_o_D1
                replace o_x8 := n_o_x8; clear n_o_x8
                replace o_D2 := n_o_D2; clear n_o_D2
                replace o_x7 := n_o_x7; clear n_o_x7
                replace r_x5_0 := n_r_x5_0; clear n_r_x5_0
                replace o_x4 := hW199.here
                refine L_nil (thenQ_normal (W_ret (end_retM (ds := [⟨.collected w162.heap.size, #[]⟩, ⟨.collected w67.heap.size, #[]⟩, ⟨.collected w31.heap.size, #[]⟩]) (by kernel_rfl) (Lv_mark o_D2 ?_))))
                intro w200 hW201
                replace hb := hb.trans (hW201.below hs_2)
                replace hs := Nat.le_trans hs (Nat.le_of_eq hW201.size.symm)
                have n_o_x3 := obj_wrote o_x3 hW201 (obj_ne o_x3 o_D2 (by simp))
                have n_o_x4 := obj_wrote o_x4 hW201 (obj_ne o_x4 o_D2 (by simp))
                have n_o_x5 := obj_wrote o_x5 hW201 (obj_ne o_x5 o_D2 (by simp))
                have n_o_cb22 := obj_wrote o_cb22 hW201 (obj_ne o_cb22 o_D2 (by simp))
                have n_o_D0 := obj_wrote o_D0 hW201 ne_D0_D2
                have n_o_D1 := obj_wrote o_D1 hW201 ne_D1_D2
                have n_o_x8 := obj_wrote o_x8 hW201 (obj_ne o_x8 o_D2 (by simp))
                have n_o_x7 := obj_wrote o_x7 hW201 (obj_ne o_x7 o_D2 (by simp))
                have n_r_x5_0 := r_x5_0.wrote hW201 (r_x5_0.ne o_D2 (by simp))
                replace o_x3 := n_o_x3; clear n_o_x3
                replace o_x4 := n_o_x4; clear n_o_x4
                replace o_x5 := n_o_x5; clear n_o_x5
                replace o_cb22 := n_o_cb22; clear n_o_cb22
                replace o_D0 := n_o_D0; clear n_o_D0
                replace o_D1 := n_o_D1; clear n_o_D1
                replace o_x8 := n_o_x8; clear n_o_x8
                replace o_x7 := n_o_x7; clear n_o_x7
                replace r_x5_0 := n_r_x5_0; clear n_r_x5_0
                replace o_D2 := hW201.here
                refine Lv_mark o_D1 ?_
                intro w202 hW203
                replace hb := hb.trans (hW203.below hs_1)
                replace hs := Nat.le_trans hs (Nat.le_of_eq hW203.size.symm)
                have n_o_x3 := obj_wrote o_x3 hW203 (obj_ne o_x3 o_D1 (by simp))
                have n_o_x4 := obj_wrote o_x4 hW203 (obj_ne o_x4 o_D1 (by simp))
                have n_o_x5 := obj_wrote o_x5 hW203 (obj_ne o_x5 o_D1 (by simp))
                have n_o_cb22 := obj_wrote o_cb22 hW203 (obj_ne o_cb22 o_D1 (by simp))
                have n_o_D0 := obj_wrote o_D0 hW203 ne_D0_D1
                have n_o_x8 := obj_wrote o_x8 hW203 (obj_ne o_x8 o_D1 (by simp))
                have n_o_D2 := obj_wrote o_D2 hW203 (obj_ne o_D2 o_D1 (by simp))
                have n_o_x7 := obj_wrote o_x7 hW203 (obj_ne o_x7 o_D1 (by simp))
                have n_r_x5_0 := r_x5_0.wrote hW203 (r_x5_0.ne o_D1 (by simp))
                replace o_x3 := n_o_x3; clear n_o_x3
                replace o_x4 := n_o_x4; clear n_o_x4
                replace o_x5 := n_o_x5; clear n_o_x5
                replace o_cb22 := n_o_cb22; clear n_o_cb22
                replace o_D0 := n_o_D0; clear n_o_D0
                replace o_x8 := n_o_x8; clear n_o_x8
                replace o_D2 := n_o_D2; clear n_o_D2
                replace o_x7 := n_o_x7; clear n_o_x7
                replace r_x5_0 := n_r_x5_0; clear n_r_x5_0
                replace o_D1 := hW203.here
                refine Lv_mark o_D0 ?_
                intro w204 hW205
                replace hb := hb.trans (hW205.below hs_0)
                replace hs := Nat.le_trans hs (Nat.le_of_eq hW205.size.symm)
                have n_o_x3 := obj_wrote o_x3 hW205 (obj_ne o_x3 o_D0 (by simp))
                have n_o_x4 := obj_wrote o_x4 hW205 (obj_ne o_x4 o_D0 (by simp))
                have n_o_x5 := obj_wrote o_x5 hW205 (obj_ne o_x5 o_D0 (by simp))
                have n_o_cb22 := obj_wrote o_cb22 hW205 (obj_ne o_cb22 o_D0 (by simp))
                have n_o_D1 := obj_wrote o_D1 hW205 (obj_ne o_D1 o_D0 (by simp))
                have n_o_x8 := obj_wrote o_x8 hW205 (obj_ne o_x8 o_D0 (by simp))
                have n_o_D2 := obj_wrote o_D2 hW205 (obj_ne o_D2 o_D0 (by simp))
                have n_o_x7 := obj_wrote o_x7 hW205 (obj_ne o_x7 o_D0 (by simp))
                have n_r_x5_0 := r_x5_0.wrote hW205 (r_x5_0.ne o_D0 (by simp))
                replace o_x3 := n_o_x3; clear n_o_x3
                replace o_x4 := n_o_x4; clear n_o_x4
                replace o_x5 := n_o_x5; clear n_o_x5
                replace o_cb22 := n_o_cb22; clear n_o_cb22
                replace o_D1 := n_o_D1; clear n_o_D1
                replace o_x8 := n_o_x8; clear n_o_x8
                replace o_D2 := n_o_D2; clear n_o_D2
                replace o_x7 := n_o_x7; clear n_o_x7
                replace r_x5_0 := n_r_x5_0; clear n_r_x5_0
                replace o_D0 := hW205.here
                refine Lv_nil [.cell 4 4] [(.bool true)] rfl ⟨⟨⟨b4, 0, none⟩, by kernel_rfl, load_one (by kernel_rfl) (cell_obj o_x4 rfl)⟩, trivial⟩ ?_
                have e0 : true = true := by first | rfl | (exfalso; omega) | (exfalso; simp_all; omega)
                exact ⟨congrArg Value.bool e0, hb⟩
            · intro K c _ x A _ h; exact h.elim
        · intro h206
          replace h206 : m = (W).length := by omega
          refine L_mv (L_skip (by kernel_rfl) (L_skip (by kernel_rfl) (L_skip (by kernel_rfl) (L_skip (by kernel_rfl) (L_skip (by kernel_rfl) (L_skip (by kernel_rfl) (L_skip (by kernel_rfl) (L_pickF (by kernel_rfl) (L_nil (thenQ_normal (W_false (by kernel_rfl) (W_skip (blkQ_normal (thenQ_normal (W_seq (W_seq (W_region (L_load b57 0 (.int .i64 1) (by kernel_rfl) (by kernel_rfl) (cell_obj o_x7 rfl) (L_nil (thenQ_normal (W_region (L_new (fun b => .pointer (some ⟨b, 0, none⟩)) (.cells [(.int .i64 0)].toArray 3 (0, 0)) (by kernel_rfl) (by kernel_rfl) ?_))))))))))))))))))))))
          intro b207 w208 hN209
          have ne_x3_x7 : b1 ≠ b207 := by have := obj_lt o_x3; have := hN209.num; omega
          have ne_x7_x3 := ne_x3_x7.symm
          have ne_x4_x7 : b4 ≠ b207 := by have := obj_lt o_x4; have := hN209.num; omega
          have ne_x7_x4 := ne_x4_x7.symm
          have ne_x5_x7 : b14 ≠ b207 := by have := obj_lt o_x5; have := hN209.num; omega
          have ne_x7_x5 := ne_x5_x7.symm
          have ne_cb22_x7 : cb22 ≠ b207 := by have := obj_lt o_cb22; have := hN209.num; omega
          have ne_x7_cb22 := ne_cb22_x7.symm
          have ne_D0_x7 : w31.heap.size ≠ b207 := by have := obj_lt o_D0; have := hN209.num; omega
          have ne_x7_D0 := ne_D0_x7.symm
          have ne_x8_x7 : b64 ≠ b207 := by have := obj_lt o_x8; have := hN209.num; omega
          have ne_x7_x8 := ne_x8_x7.symm
          have ne_D1_x7 : w67.heap.size ≠ b207 := by have := obj_lt o_D1; have := hN209.num; omega
          have ne_x7_D1 := ne_D1_x7.symm
          have g_x7 : w.heap.size ≤ b207 := by rw [hN209.num]; exact hs
          replace hb := hb.trans (hN209.below.mono hs)
          replace hs := Nat.le_trans hs (hN209.below.size)
          replace o_x3 := obj_below o_x3 hN209.below
          replace o_x4 := obj_below o_x4 hN209.below
          replace o_x5 := obj_below o_x5 hN209.below
          replace o_cb22 := obj_below o_cb22 hN209.below
          replace o_D0 := obj_below o_D0 hN209.below
          replace o_x8 := obj_below o_x8 hN209.below
          replace o_D1 := obj_below o_D1 hN209.below
          replace r_x5_0 := r_x5_0.below hN209.below
          have o_x7 := hN209.here
          refine L_store b207 0 (.int .i64 1) [(.int .i64 0)] [(.int .i64 1)] 3 (by kernel_rfl) (by kernel_rfl) rfl (by kernel_rfl) o_x7 (by simp) rfl ?_
          intro w210 hW211
          replace hb := hb.trans (hW211.below g_x7)
          replace hs := Nat.le_trans hs (Nat.le_of_eq hW211.size.symm)
          have n_o_x3 := obj_wrote o_x3 hW211 ne_x3_x7
          have n_o_x4 := obj_wrote o_x4 hW211 (obj_ne o_x4 o_x7 (by simp))
          have n_o_x5 := obj_wrote o_x5 hW211 (obj_ne o_x5 o_x7 (by simp))
          have n_o_cb22 := obj_wrote o_cb22 hW211 (obj_ne o_cb22 o_x7 (by simp))
          have n_o_D0 := obj_wrote o_D0 hW211 (obj_ne o_D0 o_x7 (by simp))
          have n_o_x8 := obj_wrote o_x8 hW211 ne_x8_x7
          have n_o_D1 := obj_wrote o_D1 hW211 (obj_ne o_D1 o_x7 (by simp))
          have n_r_x5_0 := r_x5_0.wrote hW211 (r_x5_0.ne o_x7 (by simp))
          replace o_x3 := n_o_x3; clear n_o_x3
          replace o_x4 := n_o_x4; clear n_o_x4
          replace o_x5 := n_o_x5; clear n_o_x5
          replace o_cb22 := n_o_cb22; clear n_o_cb22
          replace o_D0 := n_o_D0; clear n_o_D0
          replace o_x8 := n_o_x8; clear n_o_x8
          replace o_D1 := n_o_D1; clear n_o_D1
          replace r_x5_0 := n_r_x5_0; clear n_r_x5_0
          replace o_x7 := hW211.here
          refine L_nil (thenQ_normal (W_region (L_load b207 0 (.int .i64 1) (by kernel_rfl) (by kernel_rfl) (cell_obj o_x7 rfl) (L_addN 1 1 (by omega) (by kernel_rfl) (by kernel_rfl) (L_store b207 0 (.int .i64 2) [(.int .i64 1)] [(.int .i64 2)] 3 (by kernel_rfl) (by kernel_rfl) rfl (by kernel_rfl) o_x7 (by simp) rfl ?_)))))
          intro w212 hW213
          replace hb := hb.trans (hW213.below g_x7)
          replace hs := Nat.le_trans hs (Nat.le_of_eq hW213.size.symm)
          have n_o_x3 := obj_wrote o_x3 hW213 ne_x3_x7
          have n_o_x4 := obj_wrote o_x4 hW213 (obj_ne o_x4 o_x7 (by simp))
          have n_o_x5 := obj_wrote o_x5 hW213 (obj_ne o_x5 o_x7 (by simp))
          have n_o_cb22 := obj_wrote o_cb22 hW213 (obj_ne o_cb22 o_x7 (by simp))
          have n_o_D0 := obj_wrote o_D0 hW213 (obj_ne o_D0 o_x7 (by simp))
          have n_o_x8 := obj_wrote o_x8 hW213 ne_x8_x7
          have n_o_D1 := obj_wrote o_D1 hW213 (obj_ne o_D1 o_x7 (by simp))
          have n_r_x5_0 := r_x5_0.wrote hW213 (r_x5_0.ne o_x7 (by simp))
          replace o_x3 := n_o_x3; clear n_o_x3
          replace o_x4 := n_o_x4; clear n_o_x4
          replace o_x5 := n_o_x5; clear n_o_x5
          replace o_cb22 := n_o_cb22; clear n_o_cb22
          replace o_D0 := n_o_D0; clear n_o_D0
          replace o_x8 := n_o_x8; clear n_o_x8
          replace o_D1 := n_o_D1; clear n_o_D1
          replace r_x5_0 := n_r_x5_0; clear n_r_x5_0
          replace o_x7 := hW213.here
          refine L_nil (thenQ_round (W_seq (W_seq (W_region (L_load b207 0 (.int .i64 2) (by kernel_rfl) (by kernel_rfl) (cell_obj o_x7 rfl) (L_run (.bool true) (by kernel_rfl) (by kernel_rfl) (L_nil (thenQ_normal (W_true (by kernel_rfl) (W_skip (thenQ_normal (W_seq (W_block (W_seq (W_region (L_new (fun b => .pointer (some ⟨b, 0, none⟩)) (.cells [(.int .i64 0)].toArray 3 (0, 0)) (by kernel_rfl) (by kernel_rfl) ?_))))))))))))))))
          intro b214 w215 hN216
          have ne_x3_x8 : b1 ≠ b214 := by have := obj_lt o_x3; have := hN216.num; omega
          have ne_x8_x3 := ne_x3_x8.symm
          have ne_x4_x8 : b4 ≠ b214 := by have := obj_lt o_x4; have := hN216.num; omega
          have ne_x8_x4 := ne_x4_x8.symm
          have ne_x5_x8 : b14 ≠ b214 := by have := obj_lt o_x5; have := hN216.num; omega
          have ne_x8_x5 := ne_x5_x8.symm
          have ne_cb22_x8 : cb22 ≠ b214 := by have := obj_lt o_cb22; have := hN216.num; omega
          have ne_x8_cb22 := ne_cb22_x8.symm
          have ne_D0_x8 : w31.heap.size ≠ b214 := by have := obj_lt o_D0; have := hN216.num; omega
          have ne_x8_D0 := ne_D0_x8.symm
          have ne_D1_x8 : w67.heap.size ≠ b214 := by have := obj_lt o_D1; have := hN216.num; omega
          have ne_x8_D1 := ne_D1_x8.symm
          have ne_x7_x8 : b207 ≠ b214 := by have := obj_lt o_x7; have := hN216.num; omega
          have ne_x8_x7 := ne_x7_x8.symm
          have g_x8 : w.heap.size ≤ b214 := by rw [hN216.num]; exact hs
          replace hb := hb.trans (hN216.below.mono hs)
          replace hs := Nat.le_trans hs (hN216.below.size)
          replace o_x3 := obj_below o_x3 hN216.below
          replace o_x4 := obj_below o_x4 hN216.below
          replace o_x5 := obj_below o_x5 hN216.below
          replace o_cb22 := obj_below o_cb22 hN216.below
          replace o_D0 := obj_below o_D0 hN216.below
          replace o_D1 := obj_below o_D1 hN216.below
          replace o_x7 := obj_below o_x7 hN216.below
          replace r_x5_0 := r_x5_0.below hN216.below
          have o_x8 := hN216.here
          refine L_store b214 0 (.int .i64 0) [(.int .i64 0)] [(.int .i64 0)] 3 (by kernel_rfl) (by kernel_rfl) rfl (by kernel_rfl) o_x8 (by simp) rfl ?_
          intro w217 hW218
          replace hb := hb.trans (hW218.below g_x8)
          replace hs := Nat.le_trans hs (Nat.le_of_eq hW218.size.symm)
          have n_o_x3 := obj_wrote o_x3 hW218 ne_x3_x8
          have n_o_x4 := obj_wrote o_x4 hW218 (obj_ne o_x4 o_x8 (by simp))
          have n_o_x5 := obj_wrote o_x5 hW218 (obj_ne o_x5 o_x8 (by simp))
          have n_o_cb22 := obj_wrote o_cb22 hW218 (obj_ne o_cb22 o_x8 (by simp))
          have n_o_D0 := obj_wrote o_D0 hW218 (obj_ne o_D0 o_x8 (by simp))
          have n_o_D1 := obj_wrote o_D1 hW218 (obj_ne o_D1 o_x8 (by simp))
          have n_o_x7 := obj_wrote o_x7 hW218 ne_x7_x8
          have n_r_x5_0 := r_x5_0.wrote hW218 (r_x5_0.ne o_x8 (by simp))
          replace o_x3 := n_o_x3; clear n_o_x3
          replace o_x4 := n_o_x4; clear n_o_x4
          replace o_x5 := n_o_x5; clear n_o_x5
          replace o_cb22 := n_o_cb22; clear n_o_cb22
          replace o_D0 := n_o_D0; clear n_o_D0
          replace o_D1 := n_o_D1; clear n_o_D1
          replace o_x7 := n_o_x7; clear n_o_x7
          replace r_x5_0 := n_r_x5_0; clear n_r_x5_0
          replace o_x8 := hW218.here
          refine L_nil (thenQ_normal (W_seq (W_seq (W_region (L_mv (L_nil (thenQ_normal (W_block ?_))))))))
          have lt_x3_2 : b1 < w217.heap.size := obj_lt o_x3
          have lt_x4_2 : b4 < w217.heap.size := obj_lt o_x4
          have lt_x5_2 : b14 < w217.heap.size := obj_lt o_x5
          have lt_cb22_2 : cb22 < w217.heap.size := obj_lt o_cb22
          have lt_D0_2 : w31.heap.size < w217.heap.size := obj_lt o_D0
          have lt_D1_2 : w67.heap.size < w217.heap.size := obj_lt o_D1
          have lt_x7_2 : b207 < w217.heap.size := obj_lt o_x7
          have lt_x8_2 : b214 < w217.heap.size := obj_lt o_x8
          have hs_2 := hs
          have hb_2 := hb
          refine W_range 40 [(.pointer (some ⟨cb22, 0, none⟩))] (wordsOf s) (by kernel_rfl) (fun _ _ => rfl) (it_words_Each_1 cb22 s (by omega)) o_cb22 ((fun D A B h hc hd => obj_ch h hc (fun h => Nat.not_lt.2 (hd _ h) lt_cb22_2))) (by intro x; rfl) (fun K pre A => ∃ (W : List (Int × List UInt8)) (n : Nat) (v_x5_0 : Value), (A.heap[b1]? = some (.cells [(.int .i64 most)].toArray 3 (0, 0))) ∧ (A.heap[b4]? = some (.cells [(.bool false)].toArray 4 (0, 0))) ∧ (A.heap[b14]? = some (.cells [v_x5_0].toArray 24 (0, 0))) ∧ (A.heap[cb22]? = some (.cells [(S s)].toArray 9 (0, 0))) ∧ (A.heap[w31.heap.size]? = some (.deferred (some []))) ∧ (A.heap[w67.heap.size]? = some (.deferred (some []))) ∧ (A.heap[b207]? = some (.cells [(.int .i64 2)].toArray 3 (0, 0))) ∧ (A.heap[b214]? = some (.cells [(.int .i64 ((n : Nat) : Int))].toArray 3 (0, 0))) ∧ (Row A w.heap.size 30 2 encWord v_x5_0 W) ∧ (∀ g, Value.ownBlock v_x5_0 = some g → ¬ Iv w217.heap.size K g) ∧ (Below w.heap.size w A) ∧ (W = wordsOf s) ∧ (n = pre.length)) (fun K c pre A => False) ?_ ?_ ?_ ?_ ?_ ?_
          · intro A hA
            exact ⟨W, 0, v_x5_0, obj_below o_x3 hA, obj_below o_x4 hA, obj_below o_x5 hA, obj_below o_cb22 hA, obj_below o_D0 hA, obj_below o_D1 hA, obj_below o_x7 hA, obj_below o_x8 hA, r_x5_0.below hA, nr_old r_x5_0 _, hb.trans (hA.mono hs), by exact pw, by rfl⟩
          · rintro K pre A B ⟨W, n, v_x5_0, o_x3, o_x4, o_x5, o_cb22, o_D0, o_D1, o_x7, o_x8, r_x5_0, nr_r_x5_0, hb, pw, pn⟩ hc
            exact ⟨W, n, v_x5_0, obj_ch o_x3 hc (fun h => Nat.not_lt.2 h.1 lt_x3_2), obj_ch o_x4 hc (fun h => Nat.not_lt.2 h.1 lt_x4_2), obj_ch o_x5 hc (fun h => Nat.not_lt.2 h.1 lt_x5_2), obj_ch o_cb22 hc (fun h => Nat.not_lt.2 h.1 lt_cb22_2), obj_ch o_D0 hc (fun h => Nat.not_lt.2 h.1 lt_D0_2), obj_ch o_D1 hc (fun h => Nat.not_lt.2 h.1 lt_D1_2), obj_ch o_x7 hc (fun h => Nat.not_lt.2 h.1 lt_x7_2), obj_ch o_x8 hc (fun h => Nat.not_lt.2 h.1 lt_x8_2), r_x5_0.ch hc nr_r_x5_0, nr_r_x5_0, hc.below hb hb.size (fun k h => Nat.le_trans hs_2 h.1), pw, pn⟩
          · intro K c _ A B h hc; exact h.elim
          · intro l K pre x A hi hN hK0 hK hpre
            obtain ⟨W, n, v_x5_0, o_x3, o_x4, o_x5, o_cb22, o_D0, o_D1, o_x7, o_x8, r_x5_0, nr_r_x5_0, hb, pw, pn⟩ := hi
            have hs := hb.size
            have hk := Kp.refl (w217.heap.size) K A
            have nv_x3 : ¬ Iv (w217.heap.size) K b1 := fun h => Nat.not_lt.2 h.1 lt_x3_2
            have nv_x4 : ¬ Iv (w217.heap.size) K b4 := fun h => Nat.not_lt.2 h.1 lt_x4_2
            have nv_x5 : ¬ Iv (w217.heap.size) K b14 := fun h => Nat.not_lt.2 h.1 lt_x5_2
            have nv_cb22 : ¬ Iv (w217.heap.size) K cb22 := fun h => Nat.not_lt.2 h.1 lt_cb22_2
            have nv_D0 : ¬ Iv (w217.heap.size) K w31.heap.size := fun h => Nat.not_lt.2 h.1 lt_D0_2
            have nv_D1 : ¬ Iv (w217.heap.size) K w67.heap.size := fun h => Nat.not_lt.2 h.1 lt_D1_2
            have nv_x7 : ¬ Iv (w217.heap.size) K b207 := fun h => Nat.not_lt.2 h.1 lt_x7_2
            have nv_x8 : ¬ Iv (w217.heap.size) K b214 := fun h => Nat.not_lt.2 h.1 lt_x8_2
            replace o_cb22 := hN
            have hat := pre_at hpre
            have hlt := pre_lt hpre
            have hwl := words_le s
            have hWl : W.length = (wordsOf s).length := by rw [pw]
            refine W_seq (W_region (L_as (L_nil (thenQ_normal (W_region (L_as (L_nil ?_)))))))
            refine thenQ_normal ⟨hk, ?_⟩
            intro w219 hc220
            replace o_x3 := obj_ch o_x3 hc220 nv_x3
            replace o_x4 := obj_ch o_x4 hc220 nv_x4
            replace o_x5 := obj_ch o_x5 hc220 nv_x5
            replace o_cb22 := obj_ch o_cb22 hc220 nv_cb22
            replace o_D0 := obj_ch o_D0 hc220 nv_D0
            replace o_D1 := obj_ch o_D1 hc220 nv_D1
            replace o_x7 := obj_ch o_x7 hc220 nv_x7
            replace o_x8 := obj_ch o_x8 hc220 nv_x8
            replace r_x5_0 := r_x5_0.ch hc220 nr_r_x5_0
            replace hb := hc220.below hb hs (fun k h => Nat.le_trans hs_2 h.1)
            replace hs := hb.size
            replace hK := Nat.le_trans hK hc220.size
            replace hk := Kp.refl (w217.heap.size) K w219
            refine W_block (W_seq (W_seq (W_region (L_load b214 0 (.int .i64 ((n : Nat) : Int)) (by kernel_rfl) (by kernel_rfl) (cell_obj o_x8 rfl) (L_load b14 0 v_x5_0 (by kernel_rfl) (by kernel_rfl) (cell_obj o_x5 rfl) (L_len 24 30 (W).length v_x5_0 rfl Try.underlying24 (r_x5_0.rd).len (by kernel_rfl) (L_cmp .i64 ((n : Nat) : Int) (((W).length : Nat) : Int) ((W).length ≤ n) rfl (cmpN_ge n ((W).length)) (by kernel_rfl) (by kernel_rfl) ?_ ?_)))))))
            · intro h221
              replace h221 : (W).length ≤ n := by omega
              exfalso; omega
            · intro h222
              replace h222 : n < (W).length := by omega
              refine L_mv (L_want (by kernel_rfl) (L_mv (L_want (by kernel_rfl) (L_load b14 0 v_x5_0 (by kernel_rfl) (by kernel_rfl) (cell_obj o_x5 rfl) (L_want (by kernel_rfl) (L_load b214 0 (.int .i64 ((n : Nat) : Int)) (by kernel_rfl) (by kernel_rfl) (cell_obj o_x8 rfl) (L_want (by kernel_rfl) ?_)))))))
              obtain ⟨x223, hx224⟩ := get_some W n (by omega)
              have hz := (r_x5_0.rd).at (k := 2) (fun _ => rfl) hx224
              obtain ⟨g225, off226, hl227, hc228⟩ := hz
              have he : x223 = x := by rw [pw, pn] at hx224; exact Option.some.inj (hx224.symm.trans hat)
              refine L_ixaddr (k := .i64) v_x5_0 n _ g225 off226 el24 hl227 (by omega) (by kernel_rfl) (by kernel_rfl) (L_want (by kernel_rfl) (L_run (.pointer (some ⟨g225, (off226 + n * 2), none⟩)) (by kernel_rfl) (by kernel_rfl) (L_want (by kernel_rfl) (L_load g225 (off226 + n * 2) (.int .i64 x223.1) (by kernel_rfl) (by kernel_rfl) (hc228 0 _ rfl) (L_want (by kernel_rfl) (L_cmp .i64 x.1 x223.1 (x.1 ≠ x223.1) rfl (cmp_ne x.1 x223.1) (by kernel_rfl) (by kernel_rfl) ?_ ?_))))))
              · intro h229
                replace h229 : x.1 ≠ x223.1 := by omega
                exfalso; exact h229 (by rw [he])
              · intro h230
                replace h230 : x.1 = x223.1 := by omega
                refine L_pickF (by kernel_rfl) (L_mv (L_want (by kernel_rfl) (L_mv (L_want (by kernel_rfl) (L_load b14 0 v_x5_0 (by kernel_rfl) (by kernel_rfl) (cell_obj o_x5 rfl) (L_want (by kernel_rfl) (L_load b214 0 (.int .i64 ((n : Nat) : Int)) (by kernel_rfl) (by kernel_rfl) (cell_obj o_x8 rfl) (L_want (by kernel_rfl) ?_))))))))
                have hz := (r_x5_0.rd).at (k := 2) (fun _ => rfl) hx224
                obtain ⟨g233, off234, hl235, hc236⟩ := hz
                refine L_ixaddr (k := .i64) v_x5_0 n _ g233 off234 el24 hl235 (by omega) (by kernel_rfl) (by kernel_rfl) (L_want (by kernel_rfl) (L_run (.pointer (some ⟨g233, ((off234 + n * 2) + 1), none⟩)) (by kernel_rfl) (by kernel_rfl) (L_want (by kernel_rfl) (L_load g233 ((off234 + n * 2) + 1) (S x223.2) (by kernel_rfl) (by kernel_rfl) (hc236 1 _ rfl) (L_want (by kernel_rfl) (L_sne x.2 x223.2 rfl (by kernel_rfl) (by kernel_rfl) ?_ ?_))))))
                · intro h237
                  exfalso; exact h237 (by rw [he])
                · intro h238
                  refine L_pickF (by kernel_rfl) (L_nil (thenQ_normal (W_false (by kernel_rfl) (W_skip (thenQ_normal (W_seq (W_region (L_load b214 0 (.int .i64 ((n : Nat) : Int)) (by kernel_rfl) (by kernel_rfl) (cell_obj o_x8 rfl) (L_addN n 1 (by omega) (by kernel_rfl) (by kernel_rfl) (L_store b214 0 (.int .i64 (((n + 1) : Nat) : Int)) [(.int .i64 ((n : Nat) : Int))] [(.int .i64 (((n + 1) : Nat) : Int))] 3 (by kernel_rfl) (by kernel_rfl) rfl (by kernel_rfl) o_x8 (by simp) rfl ?_))))))))))
                  intro w239 hW240
                  replace hb := hb.trans (hW240.below g_x8)
                  replace hk := hk.ch (Ch.of_wrote hW240) hK (fun k e h => nv_x8 (e ▸ h))
                  replace hK := Nat.le_trans hK (Nat.le_of_eq hW240.size.symm)
                  replace hs := Nat.le_trans hs (Nat.le_of_eq hW240.size.symm)
                  have n_o_x3 := obj_wrote o_x3 hW240 ne_x3_x8
                  have n_o_x4 := obj_wrote o_x4 hW240 (obj_ne o_x4 o_x8 (by simp))
                  have n_o_x5 := obj_wrote o_x5 hW240 (obj_ne o_x5 o_x8 (by simp))
                  have n_o_cb22 := obj_wrote o_cb22 hW240 (obj_ne o_cb22 o_x8 (by simp))
                  have n_o_D0 := obj_wrote o_D0 hW240 (obj_ne o_D0 o_x8 (by simp))
                  have n_o_D1 := obj_wrote o_D1 hW240 (obj_ne o_D1 o_x8 (by simp))
                  have n_o_x7 := obj_wrote o_x7 hW240 ne_x7_x8
                  have n_r_x5_0 := r_x5_0.wrote hW240 (r_x5_0.ne o_x8 (by simp))
                  replace o_x3 := n_o_x3; clear n_o_x3
                  replace o_x4 := n_o_x4; clear n_o_x4
                  replace o_x5 := n_o_x5; clear n_o_x5
                  replace o_cb22 := n_o_cb22; clear n_o_cb22
                  replace o_D0 := n_o_D0; clear n_o_D0
                  replace o_D1 := n_o_D1; clear n_o_D1
                  replace o_x7 := n_o_x7; clear n_o_x7
                  replace r_x5_0 := n_r_x5_0; clear n_r_x5_0
                  replace o_x8 := hW240.here
                  refine L_nil (thenQ_normal (W_seq (W_region (L_load b207 0 (.int .i64 2) (by kernel_rfl) (by kernel_rfl) (cell_obj o_x7 rfl) (L_run (.bool false) (by kernel_rfl) (by kernel_rfl) (L_mv (L_skip (by kernel_rfl) (L_skip (by kernel_rfl) (L_skip (by kernel_rfl) (L_pickF (by kernel_rfl) (L_nil (thenQ_normal (W_false (by kernel_rfl) (W_skip (blkQ_normal ?_)))))))))))))))
                  refine round_normal hk o_cb22 ⟨W, (n + 1), v_x5_0, o_x3, o_x4, o_x5, o_cb22, o_D0, o_D1, o_x7, o_x8, r_x5_0, nr_r_x5_0, hb, ?_, ?_⟩
                  · exact pw
                  · simp [pn]
          · intro K A hi hsz o_D2
            obtain ⟨W, n, v_x5_0, o_x3, o_x4, o_x5, o_cb22, o_D0, o_D1, o_x7, o_x8, r_x5_0, nr_r_x5_0, hb, pw, pn⟩ := hi
            have ne_x3_D2 : b1 ≠ w217.heap.size := Nat.ne_of_lt lt_x3_2
            have ne_D2_x3 := ne_x3_D2.symm
            have ne_x4_D2 : b4 ≠ w217.heap.size := Nat.ne_of_lt lt_x4_2
            have ne_D2_x4 := ne_x4_D2.symm
            have ne_x5_D2 : b14 ≠ w217.heap.size := Nat.ne_of_lt lt_x5_2
            have ne_D2_x5 := ne_x5_D2.symm
            have ne_cb22_D2 : cb22 ≠ w217.heap.size := Nat.ne_of_lt lt_cb22_2
            have ne_D2_cb22 := ne_cb22_D2.symm
            have ne_D0_D2 : w31.heap.size ≠ w217.heap.size := Nat.ne_of_lt lt_D0_2
            have ne_D2_D0 := ne_D0_D2.symm
            have ne_D1_D2 : w67.heap.size ≠ w217.heap.size := Nat.ne_of_lt lt_D1_2
            have ne_D2_D1 := ne_D1_D2.symm
            have ne_x7_D2 : b207 ≠ w217.heap.size := Nat.ne_of_lt lt_x7_2
            have ne_D2_x7 := ne_x7_D2.symm
            have ne_x8_D2 : b214 ≠ w217.heap.size := Nat.ne_of_lt lt_x8_2
            have ne_D2_x8 := ne_x8_D2.symm
            have hs : w.heap.size ≤ _ := hb.size
            refine blkQ_normal (thenQ_normal (W_seq (W_region (L_load b214 0 (.int .i64 ((n : Nat) : Int)) (by kernel_rfl) (by kernel_rfl) (cell_obj o_x8 rfl) (L_load b14 0 v_x5_0 (by kernel_rfl) (by kernel_rfl) (cell_obj o_x5 rfl) (L_len 24 30 (W).length v_x5_0 rfl Try.underlying24 (r_x5_0.rd).len (by kernel_rfl) (L_cmp .i64 ((n : Nat) : Int) (((W).length : Nat) : Int) (n ≠ (W).length) rfl (cmpN_ne n ((W).length)) (by kernel_rfl) (by kernel_rfl) ?_ ?_)))))))
            · intro h241
              replace h241 : n ≠ (W).length := by omega
              exfalso; rw [pw] at h241; omega
            · intro h242
              replace h242 : n = (W).length := by omega
              refine L_mv (L_skip (by kernel_rfl) (L_skip (by kernel_rfl) (L_skip (by kernel_rfl) (L_skip (by kernel_rfl) (L_skip (by kernel_rfl) (L_skip (by kernel_rfl) (L_skip (by kernel_rfl) (L_pickF (by kernel_rfl) (L_nil (thenQ_normal (W_false (by kernel_rfl) (W_skip (blkQ_normal (thenQ_normal (W_seq (W_seq (W_region (L_load b207 0 (.int .i64 2) (by kernel_rfl) (by kernel_rfl) (cell_obj o_x7 rfl) (L_nil (thenQ_normal (W_region (L_new (fun b => .pointer (some ⟨b, 0, none⟩)) (.cells [(.int .i64 0)].toArray 3 (0, 0)) (by kernel_rfl) (by kernel_rfl) ?_))))))))))))))))))))))
              intro b243 w244 hN245
              have ne_x3_x7 : b1 ≠ b243 := by have := obj_lt o_x3; have := hN245.num; omega
              have ne_x7_x3 := ne_x3_x7.symm
              have ne_x4_x7 : b4 ≠ b243 := by have := obj_lt o_x4; have := hN245.num; omega
              have ne_x7_x4 := ne_x4_x7.symm
              have ne_x5_x7 : b14 ≠ b243 := by have := obj_lt o_x5; have := hN245.num; omega
              have ne_x7_x5 := ne_x5_x7.symm
              have ne_cb22_x7 : cb22 ≠ b243 := by have := obj_lt o_cb22; have := hN245.num; omega
              have ne_x7_cb22 := ne_cb22_x7.symm
              have ne_D0_x7 : w31.heap.size ≠ b243 := by have := obj_lt o_D0; have := hN245.num; omega
              have ne_x7_D0 := ne_D0_x7.symm
              have ne_D1_x7 : w67.heap.size ≠ b243 := by have := obj_lt o_D1; have := hN245.num; omega
              have ne_x7_D1 := ne_D1_x7.symm
              have ne_x8_x7 : b214 ≠ b243 := by have := obj_lt o_x8; have := hN245.num; omega
              have ne_x7_x8 := ne_x8_x7.symm
              have ne_D2_x7 : w217.heap.size ≠ b243 := by have := obj_lt o_D2; have := hN245.num; omega
              have ne_x7_D2 := ne_D2_x7.symm
              have g_x7 : w.heap.size ≤ b243 := by rw [hN245.num]; exact hs
              replace hb := hb.trans (hN245.below.mono hs)
              replace hs := Nat.le_trans hs (hN245.below.size)
              replace o_x3 := obj_below o_x3 hN245.below
              replace o_x4 := obj_below o_x4 hN245.below
              replace o_x5 := obj_below o_x5 hN245.below
              replace o_cb22 := obj_below o_cb22 hN245.below
              replace o_D0 := obj_below o_D0 hN245.below
              replace o_D1 := obj_below o_D1 hN245.below
              replace o_x8 := obj_below o_x8 hN245.below
              replace o_D2 := obj_below o_D2 hN245.below
              replace r_x5_0 := r_x5_0.below hN245.below
              have o_x7 := hN245.here
              refine L_store b243 0 (.int .i64 2) [(.int .i64 0)] [(.int .i64 2)] 3 (by kernel_rfl) (by kernel_rfl) rfl (by kernel_rfl) o_x7 (by simp) rfl ?_
              intro w246 hW247
              replace hb := hb.trans (hW247.below g_x7)
              replace hs := Nat.le_trans hs (Nat.le_of_eq hW247.size.symm)
              have n_o_x3 := obj_wrote o_x3 hW247 ne_x3_x7
              have n_o_x4 := obj_wrote o_x4 hW247 (obj_ne o_x4 o_x7 (by simp))
              have n_o_x5 := obj_wrote o_x5 hW247 (obj_ne o_x5 o_x7 (by simp))
              have n_o_cb22 := obj_wrote o_cb22 hW247 (obj_ne o_cb22 o_x7 (by simp))
              have n_o_D0 := obj_wrote o_D0 hW247 (obj_ne o_D0 o_x7 (by simp))
              have n_o_D1 := obj_wrote o_D1 hW247 (obj_ne o_D1 o_x7 (by simp))
              have n_o_x8 := obj_wrote o_x8 hW247 ne_x8_x7
              have n_o_D2 := obj_wrote o_D2 hW247 (obj_ne o_D2 o_x7 (by simp))
              have n_r_x5_0 := r_x5_0.wrote hW247 (r_x5_0.ne o_x7 (by simp))
              replace o_x3 := n_o_x3; clear n_o_x3
              replace o_x4 := n_o_x4; clear n_o_x4
              replace o_x5 := n_o_x5; clear n_o_x5
              replace o_cb22 := n_o_cb22; clear n_o_cb22
              replace o_D0 := n_o_D0; clear n_o_D0
              replace o_D1 := n_o_D1; clear n_o_D1
              replace o_x8 := n_o_x8; clear n_o_x8
              replace o_D2 := n_o_D2; clear n_o_D2
              replace r_x5_0 := n_r_x5_0; clear n_r_x5_0
              replace o_x7 := hW247.here
              refine L_nil (thenQ_normal (W_region (L_load b243 0 (.int .i64 2) (by kernel_rfl) (by kernel_rfl) (cell_obj o_x7 rfl) (L_addN 2 1 (by omega) (by kernel_rfl) (by kernel_rfl) (L_store b243 0 (.int .i64 3) [(.int .i64 2)] [(.int .i64 3)] 3 (by kernel_rfl) (by kernel_rfl) rfl (by kernel_rfl) o_x7 (by simp) rfl ?_)))))
              intro w248 hW249
              replace hb := hb.trans (hW249.below g_x7)
              replace hs := Nat.le_trans hs (Nat.le_of_eq hW249.size.symm)
              have n_o_x3 := obj_wrote o_x3 hW249 ne_x3_x7
              have n_o_x4 := obj_wrote o_x4 hW249 (obj_ne o_x4 o_x7 (by simp))
              have n_o_x5 := obj_wrote o_x5 hW249 (obj_ne o_x5 o_x7 (by simp))
              have n_o_cb22 := obj_wrote o_cb22 hW249 (obj_ne o_cb22 o_x7 (by simp))
              have n_o_D0 := obj_wrote o_D0 hW249 (obj_ne o_D0 o_x7 (by simp))
              have n_o_D1 := obj_wrote o_D1 hW249 (obj_ne o_D1 o_x7 (by simp))
              have n_o_x8 := obj_wrote o_x8 hW249 ne_x8_x7
              have n_o_D2 := obj_wrote o_D2 hW249 (obj_ne o_D2 o_x7 (by simp))
              have n_r_x5_0 := r_x5_0.wrote hW249 (r_x5_0.ne o_x7 (by simp))
              replace o_x3 := n_o_x3; clear n_o_x3
              replace o_x4 := n_o_x4; clear n_o_x4
              replace o_x5 := n_o_x5; clear n_o_x5
              replace o_cb22 := n_o_cb22; clear n_o_cb22
              replace o_D0 := n_o_D0; clear n_o_D0
              replace o_D1 := n_o_D1; clear n_o_D1
              replace o_x8 := n_o_x8; clear n_o_x8
              replace o_D2 := n_o_D2; clear n_o_D2
              replace r_x5_0 := n_r_x5_0; clear n_r_x5_0
              replace o_x7 := hW249.here
              refine L_nil (thenQ_round (W_seq (W_seq (W_region (L_load b243 0 (.int .i64 3) (by kernel_rfl) (by kernel_rfl) (cell_obj o_x7 rfl) (L_run (.bool false) (by kernel_rfl) (by kernel_rfl) (L_nil (thenQ_normal (W_false (by kernel_rfl) (W_exit (thenQ_exit (thenQ_exit (blkQ_exit (thenQ_normal (W_seq (W_region (L_call 15 [] (by kernel_rfl) (by kernel_rfl) (c_furrowlaw05_awake  _ ) ?_)))))))))))))))))
              rintro _ w250 ⟨rfl, hB251⟩
              replace hb := hb.trans (hB251.mono hs)
              replace hs := Nat.le_trans hs (hB251.size)
              replace o_x3 := obj_below o_x3 hB251
              replace o_x4 := obj_below o_x4 hB251
              replace o_x5 := obj_below o_x5 hB251
              replace o_cb22 := obj_below o_cb22 hB251
              replace o_D0 := obj_below o_D0 hB251
              replace o_D1 := obj_below o_D1 hB251
              replace o_x8 := obj_below o_x8 hB251
              replace o_D2 := obj_below o_D2 hB251
              replace o_x7 := obj_below o_x7 hB251
              replace r_x5_0 := r_x5_0.below hB251
              refine L_store b4 0 (.bool true) [(.bool false)] [(.bool true)] 4 (by kernel_rfl) (by kernel_rfl) rfl (by kernel_rfl) o_x4 (by simp) rfl ?_
              intro w253 hW254
              replace hb := hb.trans (hW254.below g_x4)
              replace hs := Nat.le_trans hs (Nat.le_of_eq hW254.size.symm)
              have n_o_x3 := obj_wrote o_x3 hW254 (obj_ne o_x3 o_x4 (by simp))
              have n_o_x5 := obj_wrote o_x5 hW254 (obj_ne o_x5 o_x4 (by simp))
              have n_o_cb22 := obj_wrote o_cb22 hW254 (obj_ne o_cb22 o_x4 (by simp))
              have n_o_D0 := obj_wrote o_D0 hW254 (obj_ne o_D0 o_x4 (by simp))
              have n_o_D1 := obj_wrote o_D1 hW254 (obj_ne o_D1 o_x4 (by simp))
              have n_o_x8 := obj_wrote o_x8 hW254 (obj_ne o_x8 o_x4 (by simp))
              have n_o_D2 := obj_wrote o_D2 hW254 (obj_ne o_D2 o_x4 (by simp))
              have n_o_x7 := obj_wrote o_x7 hW254 (obj_ne o_x7 o_x4 (by simp))
              have n_r_x5_0 := r_x5_0.wrote hW254 (r_x5_0.ne o_x4 (by simp))
              replace o_x3 := n_o_x3; clear n_o_x3
              replace o_x5 := n_o_x5; clear n_o_x5
              replace o_cb22 := n_o_cb22; clear n_o_cb22
              replace o_D0 := n_o_D0; clear n_o_D0
              replace o_D1 := n_o_D1; clear n_o_D1
              replace o_x8 := n_o_x8; clear n_o_x8
              replace o_D2 := n_o_D2; clear n_o_D2
              replace o_x7 := n_o_x7; clear n_o_x7
              replace r_x5_0 := n_r_x5_0; clear n_r_x5_0
              replace o_x4 := hW254.here
              refine L_nil (thenQ_normal (W_ret (end_retM (ds := [⟨.collected w217.heap.size, #[]⟩, ⟨.collected w67.heap.size, #[]⟩, ⟨.collected w31.heap.size, #[]⟩]) (by kernel_rfl) (Lv_mark o_D2 ?_))))
              intro w255 hW256
              replace hb := hb.trans (hW256.below hs_2)
              replace hs := Nat.le_trans hs (Nat.le_of_eq hW256.size.symm)
              have n_o_x3 := obj_wrote o_x3 hW256 (obj_ne o_x3 o_D2 (by simp))
              have n_o_x4 := obj_wrote o_x4 hW256 (obj_ne o_x4 o_D2 (by simp))
              have n_o_x5 := obj_wrote o_x5 hW256 (obj_ne o_x5 o_D2 (by simp))
              have n_o_cb22 := obj_wrote o_cb22 hW256 (obj_ne o_cb22 o_D2 (by simp))
              have n_o_D0 := obj_wrote o_D0 hW256 ne_D0_D2
              have n_o_D1 := obj_wrote o_D1 hW256 ne_D1_D2
              have n_o_x8 := obj_wrote o_x8 hW256 (obj_ne o_x8 o_D2 (by simp))
              have n_o_x7 := obj_wrote o_x7 hW256 (obj_ne o_x7 o_D2 (by simp))
              have n_r_x5_0 := r_x5_0.wrote hW256 (r_x5_0.ne o_D2 (by simp))
              replace o_x3 := n_o_x3; clear n_o_x3
              replace o_x4 := n_o_x4; clear n_o_x4
              replace o_x5 := n_o_x5; clear n_o_x5
              replace o_cb22 := n_o_cb22; clear n_o_cb22
              replace o_D0 := n_o_D0; clear n_o_D0
              replace o_D1 := n_o_D1; clear n_o_D1
              replace o_x8 := n_o_x8; clear n_o_x8
              replace o_x7 := n_o_x7; clear n_o_x7
              replace r_x5_0 := n_r_x5_0; clear n_r_x5_0
              replace o_D2 := hW256.here
              refine Lv_mark o_D1 ?_
              intro w257 hW258
              replace hb := hb.trans (hW258.below hs_1)
              replace hs := Nat.le_trans hs (Nat.le_of_eq hW258.size.symm)
              have n_o_x3 := obj_wrote o_x3 hW258 (obj_ne o_x3 o_D1 (by simp))
              have n_o_x4 := obj_wrote o_x4 hW258 (obj_ne o_x4 o_D1 (by simp))
              have n_o_x5 := obj_wrote o_x5 hW258 (obj_ne o_x5 o_D1 (by simp))
              have n_o_cb22 := obj_wrote o_cb22 hW258 (obj_ne o_cb22 o_D1 (by simp))
              have n_o_D0 := obj_wrote o_D0 hW258 ne_D0_D1
              have n_o_x8 := obj_wrote o_x8 hW258 (obj_ne o_x8 o_D1 (by simp))
              have n_o_D2 := obj_wrote o_D2 hW258 (obj_ne o_D2 o_D1 (by simp))
              have n_o_x7 := obj_wrote o_x7 hW258 (obj_ne o_x7 o_D1 (by simp))
              have n_r_x5_0 := r_x5_0.wrote hW258 (r_x5_0.ne o_D1 (by simp))
              replace o_x3 := n_o_x3; clear n_o_x3
              replace o_x4 := n_o_x4; clear n_o_x4
              replace o_x5 := n_o_x5; clear n_o_x5
              replace o_cb22 := n_o_cb22; clear n_o_cb22
              replace o_D0 := n_o_D0; clear n_o_D0
              replace o_x8 := n_o_x8; clear n_o_x8
              replace o_D2 := n_o_D2; clear n_o_D2
              replace o_x7 := n_o_x7; clear n_o_x7
              replace r_x5_0 := n_r_x5_0; clear n_r_x5_0
              replace o_D1 := hW258.here
              refine Lv_mark o_D0 ?_
              intro w259 hW260
              replace hb := hb.trans (hW260.below hs_0)
              replace hs := Nat.le_trans hs (Nat.le_of_eq hW260.size.symm)
              have n_o_x3 := obj_wrote o_x3 hW260 (obj_ne o_x3 o_D0 (by simp))
              have n_o_x4 := obj_wrote o_x4 hW260 (obj_ne o_x4 o_D0 (by simp))
              have n_o_x5 := obj_wrote o_x5 hW260 (obj_ne o_x5 o_D0 (by simp))
              have n_o_cb22 := obj_wrote o_cb22 hW260 (obj_ne o_cb22 o_D0 (by simp))
              have n_o_D1 := obj_wrote o_D1 hW260 (obj_ne o_D1 o_D0 (by simp))
              have n_o_x8 := obj_wrote o_x8 hW260 (obj_ne o_x8 o_D0 (by simp))
              have n_o_D2 := obj_wrote o_D2 hW260 (obj_ne o_D2 o_D0 (by simp))
              have n_o_x7 := obj_wrote o_x7 hW260 (obj_ne o_x7 o_D0 (by simp))
              have n_r_x5_0 := r_x5_0.wrote hW260 (r_x5_0.ne o_D0 (by simp))
              replace o_x3 := n_o_x3; clear n_o_x3
              replace o_x4 := n_o_x4; clear n_o_x4
              replace o_x5 := n_o_x5; clear n_o_x5
              replace o_cb22 := n_o_cb22; clear n_o_cb22
              replace o_D1 := n_o_D1; clear n_o_D1
              replace o_x8 := n_o_x8; clear n_o_x8
              replace o_D2 := n_o_D2; clear n_o_D2
              replace o_x7 := n_o_x7; clear n_o_x7
              replace r_x5_0 := n_r_x5_0; clear n_r_x5_0
              replace o_D0 := hW260.here
              refine Lv_nil [.cell 4 4] [(.bool true)] rfl ⟨⟨⟨b4, 0, none⟩, by kernel_rfl, load_one (by kernel_rfl) (cell_obj o_x4 rfl)⟩, trivial⟩ ?_
              have e0 : true = true := by first | rfl | (exfalso; omega) | (exfalso; simp_all; omega)
              exact ⟨congrArg Value.bool e0, hb⟩
          · intro K c _ x A _ h; exact h.elim
  · intro K c _ x A _ h; exact h.elim

end Go.Proofs.Ytbknjmjflfkhkaa
