/- Walks, written by my program walk.py out of the specification llaw.py: each theorem says what one function returns and that it leaves memory as it was. -/
import Derived.Test.YtapndpldphflcaaDoorPLlaw
import Derived.Test.YtapndpldphflcaaDoorWllines
import Derived.Test.YtapndpldphflcaaDoorWlscan
import Derived.Test.YtapndpldphflcaaDoorWlread
import Derived.Test.YtapndpldphflcaaDoorWlawake
import Derived.Test.YtapndpldphflcaaDoorWlref
import Derived.Test.YtapndpldphflcaaDoorFKu
import Derived.Test.YtapndpldphflcaaDoorProg
import Derived.Tactics2
namespace Go.Proofs.YtapndpldphflcaaDoor
open Go Go.RowKit Go.FK
set_option linter.unusedVariables false
set_option linter.unusedSimpArgs false


set_option maxHeartbeats 4000000 in
set_option maxRecDepth 100000 in
theorem c_furrowlaw03_spoil (B_ : Nat) (v_l : Value) (l : List (List UInt8)) (w : World) (hs0 : B_ ≤ w.heap.size) (p_l : Row w B_ 9 1 encStr v_l l) (hl : l.length ≤ 1073741824) :
    Calls Tryd.prog 26 #[v_l] w (Ret fun v w' => v = (.tuple #[]) ∧ Ch (fun k => Value.ownBlock v_l = some k) w w') := by
  refine enter (args := [v_l]) Tryd.func26 rfl (by kernel_rfl : _ = 18) (by kernel_rfl) ?_
  have hb := Below.refl B_ w
  have hs : B_ ≤ (World.heap w).size := hs0
  have hc := Ch.refl (fun k => Value.ownBlock v_l = some k) w
  have dr_p_l : ∀ g, Value.ownBlock v_l = some g → (World.heap w).size ≤ g ∨ (fun k => Value.ownBlock v_l = some k) g := fun g h => .inr h
  refine W_seq (W_seq (W_region (L_as (L_nil (thenQ_normal (W_block ?_))))))
  refine W_loop (fun m s0 w0 => ∃ (i : Nat) (a : List (List UInt8)) (v_0 : Value), (m = l.length - i) ∧ (s0.ds = []) ∧ (s0.f 0 = v_0) ∧ (s0.f 2 = (.int .i64 ((i : Nat) : Int))) ∧ (Row w0 B_ 9 1 encStr v_0 a) ∧ (Below B_ w w0) ∧ (Ch (fun k => Value.ownBlock v_l = some k) w w0) ∧ (∀ g, Value.ownBlock v_0 = some g → (World.heap w).size ≤ g ∨ (fun k => Value.ownBlock v_l = some k) g) ∧ (B_ ≤ w0.heap.size) ∧ (a.length = l.length) ∧ (i ≤ l.length)) _ ⟨0, l, v_l, rfl, by kernel_rfl, by kernel_rfl, by kernel_rfl, p_l, hb, hc, dr_p_l, hs, rfl, (Nat.zero_le _)⟩ ?_
  rintro m1 s2 w3 ⟨i, a, v_0, hm, hds, f_0, f_2, r_0, hb, hc, dr_r_0, hs, i1, i2⟩
  refine W_set 0 _ f_0 (W_set 2 _ f_2 ?_)
  clear f_0 f_2
  refine W_seq (W_seq (W_region (L_mv (L_mv (L_len 40 9 (a).length v_0 rfl Tryd.underlying40 (r_0.rd).len (by kernel_rfl) (L_cmp .i64 ((i : Nat) : Int) (((a).length : Nat) : Int) (i < (a).length) rfl (cmpN_lt i ((a).length)) (by kernel_rfl) (by kernel_rfl) ?_ ?_))))))
  · intro h4
    replace h4 : i < (a).length := by omega
    refine L_nil (thenQ_normal (W_true (by kernel_rfl) (W_skip (thenQ_normal (W_seq (W_block (W_region (L_mv (L_mv ?_)))))))))
    have hz := get_some a i (by first | omega | (simp only [List.length_set]; omega)); obtain ⟨x5, hx6⟩ := hz
    have hz := (r_0.rd).at (k := 1) (fun _ => rfl) hx6
    obtain ⟨g7, off8, hl9, hc10⟩ := hz
    refine L_ixaddr (k := .i64) v_0 i _ g7 off8 el40 hl9 (by first | omega | (simp only [List.length_set]; omega)) (by kernel_rfl) (by kernel_rfl) (L_storeRow i 0 g7 off8 x5 ([115, 112, 111, 105, 108, 116] : List UInt8) (S ([115, 112, 111, 105, 108, 116] : List UInt8)) r_0 (fun _ => rfl) hx6 hl9 (by kernel_rfl) (by kernel_rfl) rfl (by kernel_rfl) (by kernel_rfl) rfl ?_)
    intro w11 hr12 hg13
    replace hb := hb.grown hg13 hs (fun k hk => (World.ownsRow.lt r_0 k hk).1)
    replace hc := hc.trans2 (Ch.of_grown hg13) (fun k e => dr_r_0 k e)
    replace hs := Nat.le_trans hs (hg13.size)
    replace r_0 := hr12
    have hx14 : (List.set a i ([115, 112, 111, 105, 108, 116] : List UInt8))[i]? = some ([115, 112, 111, 105, 108, 116] : List UInt8) := set_here hx6
    refine L_nil (blkQ_normal (thenQ_normal (W_region (L_mv (L_addN i 1 (by omega) (by kernel_rfl) (by kernel_rfl) (L_as (L_nil ?_)))))))
    refine thenQ_normal ⟨_, ?_, (i + 1), (List.set a i ([115, 112, 111, 105, 108, 116] : List UInt8)), v_0, rfl, hds, by kernel_rfl, by kernel_rfl, r_0, hb, hc, dr_r_0, hs, ?_, ?_⟩
    · omega
    · rw [List.length_set]; exact i1
    · omega
  · intro h15
    replace h15 : (a).length ≤ i := by omega
    refine L_nil (thenQ_normal (W_false (by kernel_rfl) (W_exit (thenQ_exit (thenQ_exit (blkQ_exit (thenQ_normal (W_seq (W_region (L_mv (L_nil (thenQ_normal (W_block ?_)))))))))))))
    refine W_loop (fun m s0 w0 => ∃ (k : Nat) (a : List (List UInt8)) (v_0 : Value), (m = 40 - k) ∧ (s0.ds = []) ∧ (s0.f 0 = v_0) ∧ (s0.f 12 = (.int .i64 ((k : Nat) : Int))) ∧ (Row w0 B_ 9 1 encStr v_0 a) ∧ (Below B_ w w0) ∧ (Ch (fun k => Value.ownBlock v_l = some k) w w0) ∧ (∀ g, Value.ownBlock v_0 = some g → (World.heap w).size ≤ g ∨ (fun k => Value.ownBlock v_l = some k) g) ∧ (B_ ≤ w0.heap.size) ∧ (a.length = l.length + k) ∧ (k ≤ 40)) _ ⟨0, a, v_0, rfl, hds, by kernel_rfl, by kernel_rfl, r_0, hb, hc, dr_r_0, hs, (by omega), by omega⟩ ?_
    rintro m16 s17 w18 ⟨k, a, v_0, hm, hds, f_0, f_12, r_0, hb, hc, dr_r_0, hs, i3, i4⟩
    refine W_set 0 _ f_0 (W_set 12 _ f_12 ?_)
    clear f_0 f_12
    refine W_seq (W_region (L_cmp .i64 ((k : Nat) : Int) ((40 : Nat) : Int) (k < 40) rfl (cmpN_lt k 40) (by kernel_rfl) (by kernel_rfl) ?_ ?_))
    · intro h19
      replace h19 : k < 40 := by omega
      refine L_nil (thenQ_normal (W_seq (W_true (by kernel_rfl) (W_skip (thenQ_normal (W_seq (W_block (W_region (L_mv (L_app el40 B_ v_0 a ([103, 114, 111, 119, 110] : List UInt8) hs r_0 (by omega) (by kernel_rfl) rfl rfl (by kernel_rfl) rfl (by kernel_rfl) (by kernel_rfl) ?_))))))))))
      intro v20 w21 hr22 hg23 how24
      have dr2 := dr_app (D := (fun k => Value.ownBlock v_l = some k)) how24 (by have h0 := hc.size; omega : (World.heap w).size ≤ (World.heap w18).size + 1) dr_r_0
      replace hb := hb.grown hg23 hs (fun k hk => (World.ownsRow.lt r_0 k hk).1)
      replace hc := hc.trans2 (Ch.of_grown hg23) (fun k e => dr_r_0 k e)
      replace hs := Nat.le_trans hs (hg23.size)
      replace r_0 := hr22
      have dr_r_0 := dr2; clear dr2
      refine L_as (L_nil (blkQ_normal (thenQ_normal (W_region (L_addN k 1 (by omega) (by kernel_rfl) (by kernel_rfl) (L_mv (L_nil ?_)))))))
      refine thenQ_normal ⟨_, ?_, (k + 1), (a ++ [([103, 114, 111, 119, 110] : List UInt8)]), v20, rfl, hds, by kernel_rfl, by kernel_rfl, r_0, hb, hc, dr_r_0, hs, ?_, ?_⟩
      · omega
      · simp only [List.length_append, List.length_cons, List.length_nil]; omega
      · omega
    · intro h25
      replace h25 : 40 ≤ k := by omega
      refine L_nil (thenQ_normal (W_seq (W_false (by kernel_rfl) (W_exit (thenQ_exit (thenQ_exit (blkQ_exit ?_)))))))
      refine end_normal [] [] rfl hds trivial ?_
      exact ⟨rfl, hc⟩

set_option maxHeartbeats 4000000 in
set_option maxRecDepth 100000 in
theorem c_furrowlaw03_sameTexts (v_a : Value) (a : List (List UInt8)) (v_b : Value) (b : List (List UInt8)) (w : World) (p_a : Rd w encStr v_a a) (p_b : Rd w encStr v_b b) (ha : a.length ≤ 1073741824) (hb_ : b.length ≤ 1073741824) :
    Calls Tryd.prog 25 #[v_a, v_b] w (Ret fun v w' => v = (.bool (decide (a = b))) ∧ Below w.heap.size w w') := by
  refine enter (args := [v_a, v_b]) Tryd.func25 rfl (by kernel_rfl : _ = 26) (by kernel_rfl) ?_
  have hb := Below.refl w.heap.size w
  have hs : w.heap.size ≤ w.heap.size := Nat.le_refl _
  have in_p_a := p_a
  have in_p_b := p_b
  refine W_seq (W_region (L_as (L_nil (thenQ_normal (W_seq (W_seq (W_region (L_mv (L_len 40 9 (a).length v_a rfl Tryd.underlying40 (p_a).len (by kernel_rfl) (L_mv (L_len 40 9 (b).length v_b rfl Tryd.underlying40 (p_b).len (by kernel_rfl) (L_cmp .i64 (((a).length : Nat) : Int) (((b).length : Nat) : Int) ((a).length ≠ (b).length) rfl (cmpN_ne ((a).length) ((b).length)) (by kernel_rfl) (by kernel_rfl) ?_ ?_))))))))))))
  · intro h1
    replace h1 : (a).length ≠ (b).length := by omega
    refine L_nil (thenQ_normal (W_true (by kernel_rfl) (W_seq (W_region (L_as (L_nil (thenQ_normal (W_ret (thenQ_ret ?_)))))))))
    refine end_ret [.tmp 4] [(.bool false)] rfl rfl ⟨by kernel_rfl, trivial⟩ ?_
    have e0 : false = decide (a = b) := by first | exact (decide_eq_true (take_all i3 i2 (by omega))).symm | exact (decide_eq_false (ne_len (by omega))).symm | exact (decide_eq_false (ne_at (by assumption) (by assumption) (by assumption))).symm
    exact ⟨congrArg Value.bool e0, hb⟩
  · intro h2
    replace h2 : (a).length = (b).length := by omega
    refine L_nil (thenQ_normal (W_false (by kernel_rfl) (W_skip (thenQ_normal (W_seq (W_seq (W_region (L_as (L_nil (thenQ_normal (W_block ?_)))))))))))
    refine W_loop (fun m s0 w0 => ∃ (i : Nat), (m = a.length - i) ∧ (s0.ds = []) ∧ (s0.f 0 = v_a) ∧ (s0.f 1 = v_b) ∧ (s0.f 5 = (.int .i64 ((i : Nat) : Int))) ∧ (Rd w0 encStr v_a a) ∧ (Rd w0 encStr v_b b) ∧ (Below w.heap.size w w0) ∧ (w.heap.size ≤ w0.heap.size) ∧ (i ≤ a.length) ∧ (a.length = b.length) ∧ (a.take i = b.take i)) _ ⟨0, rfl, by kernel_rfl, by kernel_rfl, by kernel_rfl, by kernel_rfl, p_a, p_b, hb, hs, by omega, (by omega), rfl⟩ ?_
    rintro m3 s4 w5 ⟨i, hm, hds, f_0, f_1, f_5, p_a, p_b, hb, hs, i1, i2, i3⟩
    refine W_set 0 _ f_0 (W_set 1 _ f_1 (W_set 5 _ f_5 ?_))
    clear f_0 f_1 f_5
    refine W_seq (W_seq (W_region (L_mv (L_mv (L_len 40 9 (a).length v_a rfl Tryd.underlying40 (p_a).len (by kernel_rfl) (L_cmp .i64 ((i : Nat) : Int) (((a).length : Nat) : Int) (i < (a).length) rfl (cmpN_lt i ((a).length)) (by kernel_rfl) (by kernel_rfl) ?_ ?_))))))
    · intro h6
      replace h6 : i < (a).length := by omega
      refine L_nil (thenQ_normal (W_true (by kernel_rfl) (W_skip (thenQ_normal (W_seq (W_block (W_seq (W_quiet (by kernel_rfl) (by kernel_rfl) (Lq_mv (Lq_mv ?_))))))))))
      have hz := get_some a i (by omega); obtain ⟨x7, hx8⟩ := hz
      have hz := (p_a).at (k := 1) (fun _ => rfl) hx8
      obtain ⟨g9, off10, hl11, hc12⟩ := hz
      refine Lq_ixaddr (k := .i64) v_a i _ g9 off10 el40 hl11 (by omega) (by kernel_rfl) (by kernel_rfl) (Lq_load g9 (off10 + i * 1) (S x7) (by kernel_rfl) (fun _ => by kernel_rfl) (hc12 0 _ rfl) (Lq_mv (Lq_mv ?_)))
      have hz := get_some b i (by omega); obtain ⟨x13, hx14⟩ := hz
      have hz := (p_b).at (k := 1) (fun _ => rfl) hx14
      obtain ⟨g15, off16, hl17, hc18⟩ := hz
      refine Lq_ixaddr (k := .i64) v_b i _ g15 off16 el40 hl17 (by omega) (by kernel_rfl) (by kernel_rfl) (Lq_load g15 (off16 + i * 1) (S x13) (by kernel_rfl) (fun _ => by kernel_rfl) (hc18 0 _ rfl) (Lq_sne x7 x13 rfl (by kernel_rfl) (by kernel_rfl) ?_ ?_))
      · intro h19
        refine Lq_nil ?_
        intro w20 hB21
        replace hb := hb.trans (hB21.mono hs)
        replace hs := Nat.le_trans hs (hB21.size)
        replace p_a := p_a.below hB21
        replace p_b := p_b.below hB21
        refine thenQ_normal (W_true (by kernel_rfl) (W_seq (W_region (L_as (L_nil (thenQ_normal (W_ret (blkQ_ret (thenQ_ret (thenQ_ret (blkQ_ret (thenQ_ret ?_))))))))))))
        refine end_ret [.tmp 4] [(.bool false)] rfl hds ⟨by kernel_rfl, trivial⟩ ?_
        have e0 : false = decide (a = b) := by first | exact (decide_eq_true (take_all i3 i2 (by omega))).symm | exact (decide_eq_false (ne_len (by omega))).symm | exact (decide_eq_false (ne_at (by assumption) (by assumption) (by assumption))).symm
        exact ⟨congrArg Value.bool e0, hb⟩
      · intro h22
        refine Lq_nil ?_
        intro w23 hB24
        replace hb := hb.trans (hB24.mono hs)
        replace hs := Nat.le_trans hs (hB24.size)
        replace p_a := p_a.below hB24
        replace p_b := p_b.below hB24
        refine thenQ_normal (W_false (by kernel_rfl) (W_skip (blkQ_normal (thenQ_normal (W_region (L_mv (L_addN i 1 (by omega) (by kernel_rfl) (by kernel_rfl) (L_as (L_nil ?_)))))))))
        refine thenQ_normal ⟨_, ?_, (i + 1), rfl, hds, by kernel_rfl, by kernel_rfl, by kernel_rfl, p_a, p_b, hb, hs, ?_, ?_, ?_⟩
        · omega
        · omega
        · exact i2
        · exact take_same i3 (by assumption) (by assumption) (by assumption)
    · intro h25
      replace h25 : (a).length ≤ i := by omega
      refine L_nil (thenQ_normal (W_false (by kernel_rfl) (W_exit (thenQ_exit (thenQ_exit (blkQ_exit (thenQ_normal (W_seq (W_region (L_as (L_nil (thenQ_normal (W_ret ?_)))))))))))))
      refine end_ret [.tmp 4] [(.bool true)] rfl hds ⟨by kernel_rfl, trivial⟩ ?_
      have e0 : true = decide (a = b) := by first | exact (decide_eq_true (take_all i3 i2 (by omega))).symm | exact (decide_eq_false (ne_len (by omega))).symm | exact (decide_eq_false (ne_at (by assumption) (by assumption) (by assumption))).symm
      exact ⟨congrArg Value.bool e0, hb⟩

set_option maxHeartbeats 4000000 in
set_option maxRecDepth 100000 in
theorem c_furrowlaw03_LinesCuts (s : List UInt8) (w : World) (hty : w.cell? ⟨0, 0, none⟩ = some (.iface 116 (.agg #[.pointer (some ⟨4, 56, none⟩)]))) (hs : s.length ≤ 1048576) :
    Calls Tryd.prog 5 #[(S s)] w (Ret fun v w' => v = (.bool true) ∧ Below w.heap.size w w') := by
  refine enter (args := [(S s)]) Tryd.func5 rfl (by kernel_rfl : _ = 46) (by kernel_rfl) ?_
  have hb := Below.refl w.heap.size w
  have hs : w.heap.size ≤ w.heap.size := Nat.le_refl _
  have hfl := fields_lenC s
  refine W_seq (W_region (L_as (L_nil (thenQ_normal (W_seq (W_region (L_mv (L_call 23 [(S s)] (by kernel_rfl) (by kernel_rfl) (c_lines_Cut s _ (by omega)) ?_))))))))
  rintro _ w2 ⟨q1, rfl, r_q1, hB3⟩
  replace r_q1 := r_q1.base hs
  replace hb := hb.trans (hB3.mono hs)
  replace hs := Nat.le_trans hs (hB3.size)
  refine L_mv (L_run q1 (by kernel_rfl) (by kernel_rfl) (L_run (S ((cutF s).2)) (by kernel_rfl) (by kernel_rfl) (L_as (L_as (L_nil (thenQ_normal (W_seq (W_region (L_mv (L_call 23 [(S s)] (by kernel_rfl) (by kernel_rfl) (c_lines_Cut s _ (by omega)) ?_))))))))))
  rintro _ w6 ⟨q5, rfl, r_q5, hB7⟩
  have ap_r_q5_r_q1 := ap_call r_q5 r_q1; have ap_r_q1_r_q5 := ap_comm ap_r_q5_r_q1
  replace r_q5 := r_q5.base hs
  replace hb := hb.trans (hB7.mono hs)
  replace hs := Nat.le_trans hs (hB7.size)
  replace r_q1 := r_q1.below hB7
  refine L_mv (L_run q5 (by kernel_rfl) (by kernel_rfl) (L_run (S ((cutF s).2)) (by kernel_rfl) (by kernel_rfl) (L_as (L_as (L_nil (thenQ_normal (W_seq (W_region (L_mv (L_call 24 [(S s)] (by kernel_rfl) (by kernel_rfl) (c_furrowref03_Cut s _ (by omega)) ?_))))))))))
  rintro _ w10 ⟨q9, rfl, r_q9, hB11⟩
  have ap_r_q9_r_q1 := ap_call r_q9 r_q1; have ap_r_q1_r_q9 := ap_comm ap_r_q9_r_q1
  have ap_r_q9_r_q5 := ap_call r_q9 r_q5; have ap_r_q5_r_q9 := ap_comm ap_r_q9_r_q5
  replace r_q9 := r_q9.base hs
  replace hb := hb.trans (hB11.mono hs)
  replace hs := Nat.le_trans hs (hB11.size)
  replace r_q1 := r_q1.below hB11
  replace r_q5 := r_q5.below hB11
  refine L_mv (L_run q9 (by kernel_rfl) (by kernel_rfl) (L_run (S ((cutF s).2)) (by kernel_rfl) (by kernel_rfl) (L_as (L_as (L_nil (thenQ_normal (W_seq (W_seq (W_region (L_mv (L_mv (L_call 25 [q1, q9] (by kernel_rfl) (by kernel_rfl) (c_furrowlaw03_sameTexts q1 ((cutF s).1) q9 ((cutF s).1) _ r_q1.rd r_q9.rd (by omega) (by omega)) ?_))))))))))))
  rintro _ w13 ⟨rfl, hB14⟩
  replace hb := hb.trans (hB14.mono hs)
  replace hs := Nat.le_trans hs (hB14.size)
  replace r_q1 := r_q1.below hB14
  replace r_q5 := r_q5.below hB14
  replace r_q9 := r_q9.below hB14
  refine put_split (decide (((cutF s).1) = ((cutF s).1))) ?_ ?_
  · intro h16
    refine L_not true (by kernel_rfl) (L_mv (L_want (by kernel_rfl) (L_mv (L_want (by kernel_rfl) (L_mv (L_want (by kernel_rfl) (L_sne ((cutF s).2) ((cutF s).2) rfl (by kernel_rfl) (by kernel_rfl) ?_ ?_)))))))
    · intro h17
      exact (h17 rfl).elim
    · intro h18
      refine L_pickF (by kernel_rfl) (L_mv (L_want (by kernel_rfl) (L_mv (L_want (by kernel_rfl) (L_mv (L_want (by kernel_rfl) (L_sne ((cutF s).2) ((cutF s).2) rfl (by kernel_rfl) (by kernel_rfl) ?_ ?_)))))))
      · intro h19
        exact (h19 rfl).elim
      · intro h20
        refine L_pickF (by kernel_rfl) (L_nil (thenQ_normal (W_false (by kernel_rfl) (W_skip (thenQ_normal (W_seq (W_region (L_mv (L_call 26 [q1] (by kernel_rfl) (by kernel_rfl) (c_furrowlaw03_spoil w.heap.size q1 ((cutF s).1) _ hs r_q1 (by omega)) ?_)))))))))
        rintro _ w21 ⟨rfl, hC22⟩
        replace hb := hC22.below hb hs (fun k e => (World.ownsRow.lt r_q1 k e).1)
        replace hs := Nat.le_trans hs hC22.size
        have n_r_q5 := r_q5.ch_row hC22 ap_r_q5_r_q1
        have n_r_q9 := r_q9.ch_row hC22 ap_r_q9_r_q1
        replace r_q5 := n_r_q5; clear n_r_q5
        replace r_q9 := n_r_q9; clear n_r_q9
        refine L_nil (thenQ_normal (W_seq (W_region (L_mv (L_mv (L_call 25 [q5, q9] (by kernel_rfl) (by kernel_rfl) (c_furrowlaw03_sameTexts q5 ((cutF s).1) q9 ((cutF s).1) _ r_q5.rd r_q9.rd (by omega) (by omega)) ?_))))))
        rintro _ w23 ⟨rfl, hB24⟩
        replace hb := hb.trans (hB24.mono hs)
        replace hs := Nat.le_trans hs (hB24.size)
        replace r_q5 := r_q5.below hB24
        replace r_q9 := r_q9.below hB24
        refine put_split (decide (((cutF s).1) = ((cutF s).1))) ?_ ?_
        · intro h26
          refine L_mv (L_want (by kernel_rfl) (L_call 16 [] (by kernel_rfl) (by kernel_rfl) (c_furrowlaw03_awake  _ (gcell_below hty hb)) ?_))
          rintro _ w27 ⟨rfl, hB28⟩
          replace hb := hb.trans (hB28.mono hs)
          replace hs := Nat.le_trans hs (hB28.size)
          replace r_q5 := r_q5.below hB28
          replace r_q9 := r_q9.below hB28
          refine L_pickT (by kernel_rfl) (L_as (L_nil (thenQ_normal (W_ret ?_))))
          refine end_ret [.tmp 2] [(.bool true)] rfl rfl ⟨by kernel_rfl, trivial⟩ ?_
          have e0 : true = true := by first | rfl | (simp; done)
          exact ⟨congrArg Value.bool e0, hb⟩
        · intro h30
          exfalso; simp at h30
  · intro h31
    exfalso; simp at h31

set_option maxHeartbeats 4000000 in
set_option maxRecDepth 100000 in
theorem c_furrowref03_Same (n1 : Int) (k1 : Int) (m1 : List UInt8) (v_f1 : Value) (f1 : List (List UInt8)) (t1 : List UInt8) (n2 : Int) (k2 : Int) (m2 : List UInt8) (v_f2 : Value) (f2 : List (List UInt8)) (t2 : List UInt8) (w : World) (p_f1 : Rd w encStr v_f1 f1) (p_f2 : Rd w encStr v_f2 f2) (ha : f1.length ≤ 1073741824) (hb_ : f2.length ≤ 1073741824) :
    Calls Tryd.prog 29 #[(Value.agg #[(.int .i64 n1), (.int .u8 k1), (S m1), v_f1, (S t1)]), (Value.agg #[(.int .i64 n2), (.int .u8 k2), (S m2), v_f2, (S t2)])] w (Ret fun v w' => v = (.bool (decide (((n1, k1, m1, f1, t1) : LineD) = ((n2, k2, m2, f2, t2) : LineD)))) ∧ Below w.heap.size w w') := by
  refine enter (args := [(Value.agg #[(.int .i64 n1), (.int .u8 k1), (S m1), v_f1, (S t1)]), (Value.agg #[(.int .i64 n2), (.int .u8 k2), (S m2), v_f2, (S t2)])]) Tryd.func29 rfl (by kernel_rfl : _ = 59) (by kernel_rfl) ?_
  have hb := Below.refl w.heap.size w
  have hs : w.heap.size ≤ w.heap.size := Nat.le_refl _
  have in_p_f1 := p_f1
  have in_p_f2 := p_f2
  refine W_seq (W_region (L_new (fun b => .pointer (some ⟨b, 0, none⟩)) (.cells [(.int .i64 n1), (.int .u8 k1), (S m1), v_f1, (S t1)].toArray 47 (0, 0)) (by kernel_rfl) (by kernel_rfl) ?_))
  intro b1 w2 hN3
  have g_x2 : w.heap.size ≤ b1 := by rw [hN3.num]; exact hs
  replace hb := hb.trans (hN3.below.mono hs)
  replace hs := Nat.le_trans hs (hN3.below.size)
  replace p_f1 := p_f1.below hN3.below
  replace p_f2 := p_f2.below hN3.below
  have o_x2 := hN3.here
  refine L_new (fun b => .pointer (some ⟨b, 0, none⟩)) (.cells [(.int .i64 n2), (.int .u8 k2), (S m2), v_f2, (S t2)].toArray 47 (0, 0)) (by kernel_rfl) (by kernel_rfl) ?_
  intro b4 w5 hN6
  have ne_x2_x3 : b1 ≠ b4 := by have := (obj_lt o_x2); have := hN6.num; omega
  have ne_x3_x2 := ne_x2_x3.symm
  have g_x3 : w.heap.size ≤ b4 := by rw [hN6.num]; exact hs
  replace hb := hb.trans (hN6.below.mono hs)
  replace hs := Nat.le_trans hs (hN6.below.size)
  replace o_x2 := obj_below o_x2 hN6.below
  replace p_f1 := p_f1.below hN6.below
  replace p_f2 := p_f2.below hN6.below
  have o_x3 := hN6.here
  refine L_as (L_nil (thenQ_normal (W_seq (W_seq (W_region (L_run (.pointer (some ⟨b1, 0, none⟩)) (by kernel_rfl) (by kernel_rfl) (L_load b1 0 (.int .i64 n1) (by kernel_rfl) (by kernel_rfl) (cell_obj o_x2 rfl) (L_run (.pointer (some ⟨b4, 0, none⟩)) (by kernel_rfl) (by kernel_rfl) (L_load b4 0 (.int .i64 n2) (by kernel_rfl) (by kernel_rfl) (cell_obj o_x3 rfl) (L_cmp .i64 n1 n2 (n1 ≠ n2) rfl (cmp_ne n1 n2) (by kernel_rfl) (by kernel_rfl) ?_ ?_))))))))))
  · intro h7
    replace h7 : n1 ≠ n2 := by omega
    refine L_mv (L_skip (by kernel_rfl) (L_skip (by kernel_rfl) (L_skip (by kernel_rfl) (L_skip (by kernel_rfl) (L_skip (by kernel_rfl) (L_pickT (by kernel_rfl) (L_mv (L_skip (by kernel_rfl) (L_skip (by kernel_rfl) (L_skip (by kernel_rfl) (L_skip (by kernel_rfl) (L_skip (by kernel_rfl) (L_pickT (by kernel_rfl) (L_mv (L_skip (by kernel_rfl) (L_skip (by kernel_rfl) (L_skip (by kernel_rfl) (L_skip (by kernel_rfl) (L_skip (by kernel_rfl) (L_pickT (by kernel_rfl) (L_mv (L_skip (by kernel_rfl) (L_skip (by kernel_rfl) (L_skip (by kernel_rfl) (L_skip (by kernel_rfl) (L_skip (by kernel_rfl) (L_skip (by kernel_rfl) (L_skip (by kernel_rfl) (L_pickT (by kernel_rfl) (L_nil (thenQ_normal (W_true (by kernel_rfl) (W_seq (W_region (L_as (L_nil (thenQ_normal (W_ret (thenQ_ret ?_)))))))))))))))))))))))))))))))))))))))
    refine end_ret [.tmp 4] [(.bool false)] rfl rfl ⟨by kernel_rfl, trivial⟩ ?_
    have e0 : false = decide (((n1, k1, m1, f1, t1) : LineD) = ((n2, k2, m2, f2, t2) : LineD)) := by first | exact (decide_eq_true (sl_yes (by assumption) (by assumption) (by assumption) (take_all i3 i2 (by omega)) (by assumption))).symm | exact (decide_eq_false (sl_no (.inr (.inr (.inr (.inr (ne_len (by omega)))))))).symm | exact (decide_eq_false (sl_no (.inr (.inr (.inr (.inr (ne_at (by assumption) (by assumption) (by assumption)))))))).symm | exact (decide_eq_false (sl_no (.inl (by assumption)))).symm | exact (decide_eq_false (sl_no (.inr (.inl (by assumption))))).symm | exact (decide_eq_false (sl_no (.inr (.inr (.inl (by assumption)))))).symm | exact (decide_eq_false (sl_no (.inr (.inr (.inr (.inl (by assumption))))))).symm
    exact ⟨congrArg Value.bool e0, hb⟩
  · intro h8
    replace h8 : n1 = n2 := by omega
    refine L_mv (L_want (by kernel_rfl) (L_run (.pointer (some ⟨b1, 1, none⟩)) (by kernel_rfl) (by kernel_rfl) (L_want (by kernel_rfl) (L_load b1 1 (.int .u8 k1) (by kernel_rfl) (by kernel_rfl) (cell_obj o_x2 rfl) (L_want (by kernel_rfl) (L_run (.pointer (some ⟨b4, 1, none⟩)) (by kernel_rfl) (by kernel_rfl) (L_want (by kernel_rfl) (L_load b4 1 (.int .u8 k2) (by kernel_rfl) (by kernel_rfl) (cell_obj o_x3 rfl) (L_want (by kernel_rfl) (L_cmp .u8 k1 k2 (k1 ≠ k2) rfl (cmp_ne k1 k2) (by kernel_rfl) (by kernel_rfl) ?_ ?_))))))))))
    · intro h9
      replace h9 : k1 ≠ k2 := by omega
      refine L_pickF (by kernel_rfl) (L_mv (L_skip (by kernel_rfl) (L_skip (by kernel_rfl) (L_skip (by kernel_rfl) (L_skip (by kernel_rfl) (L_skip (by kernel_rfl) (L_pickT (by kernel_rfl) (L_mv (L_skip (by kernel_rfl) (L_skip (by kernel_rfl) (L_skip (by kernel_rfl) (L_skip (by kernel_rfl) (L_skip (by kernel_rfl) (L_pickT (by kernel_rfl) (L_mv (L_skip (by kernel_rfl) (L_skip (by kernel_rfl) (L_skip (by kernel_rfl) (L_skip (by kernel_rfl) (L_skip (by kernel_rfl) (L_skip (by kernel_rfl) (L_skip (by kernel_rfl) (L_pickT (by kernel_rfl) (L_nil (thenQ_normal (W_true (by kernel_rfl) (W_seq (W_region (L_as (L_nil (thenQ_normal (W_ret (thenQ_ret ?_)))))))))))))))))))))))))))))))))
      refine end_ret [.tmp 4] [(.bool false)] rfl rfl ⟨by kernel_rfl, trivial⟩ ?_
      have e0 : false = decide (((n1, k1, m1, f1, t1) : LineD) = ((n2, k2, m2, f2, t2) : LineD)) := by first | exact (decide_eq_true (sl_yes (by assumption) (by assumption) (by assumption) (take_all i3 i2 (by omega)) (by assumption))).symm | exact (decide_eq_false (sl_no (.inr (.inr (.inr (.inr (ne_len (by omega)))))))).symm | exact (decide_eq_false (sl_no (.inr (.inr (.inr (.inr (ne_at (by assumption) (by assumption) (by assumption)))))))).symm | exact (decide_eq_false (sl_no (.inl (by assumption)))).symm | exact (decide_eq_false (sl_no (.inr (.inl (by assumption))))).symm | exact (decide_eq_false (sl_no (.inr (.inr (.inl (by assumption)))))).symm | exact (decide_eq_false (sl_no (.inr (.inr (.inr (.inl (by assumption))))))).symm
      exact ⟨congrArg Value.bool e0, hb⟩
    · intro h10
      replace h10 : k1 = k2 := by omega
      refine L_pickF (by kernel_rfl) (L_mv (L_want (by kernel_rfl) (L_run (.pointer (some ⟨b1, 2, none⟩)) (by kernel_rfl) (by kernel_rfl) (L_want (by kernel_rfl) (L_load b1 2 (S m1) (by kernel_rfl) (by kernel_rfl) (cell_obj o_x2 rfl) (L_want (by kernel_rfl) (L_run (.pointer (some ⟨b4, 2, none⟩)) (by kernel_rfl) (by kernel_rfl) (L_want (by kernel_rfl) (L_load b4 2 (S m2) (by kernel_rfl) (by kernel_rfl) (cell_obj o_x3 rfl) (L_want (by kernel_rfl) (L_sne m1 m2 rfl (by kernel_rfl) (by kernel_rfl) ?_ ?_)))))))))))
      · intro h11
        refine L_pickF (by kernel_rfl) (L_mv (L_skip (by kernel_rfl) (L_skip (by kernel_rfl) (L_skip (by kernel_rfl) (L_skip (by kernel_rfl) (L_skip (by kernel_rfl) (L_pickT (by kernel_rfl) (L_mv (L_skip (by kernel_rfl) (L_skip (by kernel_rfl) (L_skip (by kernel_rfl) (L_skip (by kernel_rfl) (L_skip (by kernel_rfl) (L_skip (by kernel_rfl) (L_skip (by kernel_rfl) (L_pickT (by kernel_rfl) (L_nil (thenQ_normal (W_true (by kernel_rfl) (W_seq (W_region (L_as (L_nil (thenQ_normal (W_ret (thenQ_ret ?_))))))))))))))))))))))))))
        refine end_ret [.tmp 4] [(.bool false)] rfl rfl ⟨by kernel_rfl, trivial⟩ ?_
        have e0 : false = decide (((n1, k1, m1, f1, t1) : LineD) = ((n2, k2, m2, f2, t2) : LineD)) := by first | exact (decide_eq_true (sl_yes (by assumption) (by assumption) (by assumption) (take_all i3 i2 (by omega)) (by assumption))).symm | exact (decide_eq_false (sl_no (.inr (.inr (.inr (.inr (ne_len (by omega)))))))).symm | exact (decide_eq_false (sl_no (.inr (.inr (.inr (.inr (ne_at (by assumption) (by assumption) (by assumption)))))))).symm | exact (decide_eq_false (sl_no (.inl (by assumption)))).symm | exact (decide_eq_false (sl_no (.inr (.inl (by assumption))))).symm | exact (decide_eq_false (sl_no (.inr (.inr (.inl (by assumption)))))).symm | exact (decide_eq_false (sl_no (.inr (.inr (.inr (.inl (by assumption))))))).symm
        exact ⟨congrArg Value.bool e0, hb⟩
      · intro h12
        refine L_pickF (by kernel_rfl) (L_mv (L_want (by kernel_rfl) (L_run (.pointer (some ⟨b1, 4, none⟩)) (by kernel_rfl) (by kernel_rfl) (L_want (by kernel_rfl) (L_load b1 4 (S t1) (by kernel_rfl) (by kernel_rfl) (cell_obj o_x2 rfl) (L_want (by kernel_rfl) (L_run (.pointer (some ⟨b4, 4, none⟩)) (by kernel_rfl) (by kernel_rfl) (L_want (by kernel_rfl) (L_load b4 4 (S t2) (by kernel_rfl) (by kernel_rfl) (cell_obj o_x3 rfl) (L_want (by kernel_rfl) (L_sne t1 t2 rfl (by kernel_rfl) (by kernel_rfl) ?_ ?_)))))))))))
        · intro h13
          refine L_pickF (by kernel_rfl) (L_mv (L_skip (by kernel_rfl) (L_skip (by kernel_rfl) (L_skip (by kernel_rfl) (L_skip (by kernel_rfl) (L_skip (by kernel_rfl) (L_skip (by kernel_rfl) (L_skip (by kernel_rfl) (L_pickT (by kernel_rfl) (L_nil (thenQ_normal (W_true (by kernel_rfl) (W_seq (W_region (L_as (L_nil (thenQ_normal (W_ret (thenQ_ret ?_)))))))))))))))))))
          refine end_ret [.tmp 4] [(.bool false)] rfl rfl ⟨by kernel_rfl, trivial⟩ ?_
          have e0 : false = decide (((n1, k1, m1, f1, t1) : LineD) = ((n2, k2, m2, f2, t2) : LineD)) := by first | exact (decide_eq_true (sl_yes (by assumption) (by assumption) (by assumption) (take_all i3 i2 (by omega)) (by assumption))).symm | exact (decide_eq_false (sl_no (.inr (.inr (.inr (.inr (ne_len (by omega)))))))).symm | exact (decide_eq_false (sl_no (.inr (.inr (.inr (.inr (ne_at (by assumption) (by assumption) (by assumption)))))))).symm | exact (decide_eq_false (sl_no (.inl (by assumption)))).symm | exact (decide_eq_false (sl_no (.inr (.inl (by assumption))))).symm | exact (decide_eq_false (sl_no (.inr (.inr (.inl (by assumption)))))).symm | exact (decide_eq_false (sl_no (.inr (.inr (.inr (.inl (by assumption))))))).symm
          exact ⟨congrArg Value.bool e0, hb⟩
        · intro h14
          refine L_pickF (by kernel_rfl) (L_mv (L_want (by kernel_rfl) (L_run (.pointer (some ⟨b1, 3, none⟩)) (by kernel_rfl) (by kernel_rfl) (L_want (by kernel_rfl) (L_load b1 3 v_f1 (by kernel_rfl) (by kernel_rfl) (cell_obj o_x2 rfl) (L_want (by kernel_rfl) (L_len 40 9 (f1).length v_f1 rfl Tryd.underlying40 (p_f1).len (by kernel_rfl) (L_want (by kernel_rfl) (L_run (.pointer (some ⟨b4, 3, none⟩)) (by kernel_rfl) (by kernel_rfl) (L_want (by kernel_rfl) (L_load b4 3 v_f2 (by kernel_rfl) (by kernel_rfl) (cell_obj o_x3 rfl) (L_want (by kernel_rfl) (L_len 40 9 (f2).length v_f2 rfl Tryd.underlying40 (p_f2).len (by kernel_rfl) (L_want (by kernel_rfl) (L_cmp .i64 (((f1).length : Nat) : Int) (((f2).length : Nat) : Int) ((f1).length ≠ (f2).length) rfl (cmpN_ne ((f1).length) ((f2).length)) (by kernel_rfl) (by kernel_rfl) ?_ ?_)))))))))))))))
          · intro h15
            replace h15 : (f1).length ≠ (f2).length := by omega
            refine L_pickF (by kernel_rfl) (L_nil (thenQ_normal (W_true (by kernel_rfl) (W_seq (W_region (L_as (L_nil (thenQ_normal (W_ret (thenQ_ret ?_))))))))))
            refine end_ret [.tmp 4] [(.bool false)] rfl rfl ⟨by kernel_rfl, trivial⟩ ?_
            have e0 : false = decide (((n1, k1, m1, f1, t1) : LineD) = ((n2, k2, m2, f2, t2) : LineD)) := by first | exact (decide_eq_true (sl_yes (by assumption) (by assumption) (by assumption) (take_all i3 i2 (by omega)) (by assumption))).symm | exact (decide_eq_false (sl_no (.inr (.inr (.inr (.inr (ne_len (by omega)))))))).symm | exact (decide_eq_false (sl_no (.inr (.inr (.inr (.inr (ne_at (by assumption) (by assumption) (by assumption)))))))).symm | exact (decide_eq_false (sl_no (.inl (by assumption)))).symm | exact (decide_eq_false (sl_no (.inr (.inl (by assumption))))).symm | exact (decide_eq_false (sl_no (.inr (.inr (.inl (by assumption)))))).symm | exact (decide_eq_false (sl_no (.inr (.inr (.inr (.inl (by assumption))))))).symm
            exact ⟨congrArg Value.bool e0, hb⟩
          · intro h16
            replace h16 : (f1).length = (f2).length := by omega
            refine L_pickF (by kernel_rfl) (L_nil (thenQ_normal (W_false (by kernel_rfl) (W_skip (thenQ_normal (W_seq (W_seq (W_region (L_as (L_nil (thenQ_normal (W_block ?_))))))))))))
            refine W_loop (fun m s0 w0 => ∃ (i : Nat), (m = f1.length - i) ∧ (s0.ds = []) ∧ (s0.f 2 = (.pointer (some ⟨b1, 0, none⟩))) ∧ (s0.f 3 = (.pointer (some ⟨b4, 0, none⟩))) ∧ (s0.f 5 = (.int .i64 ((i : Nat) : Int))) ∧ (Rd w0 encStr v_f1 f1) ∧ (Rd w0 encStr v_f2 f2) ∧ (w0.heap[b1]? = some (.cells [(.int .i64 n1), (.int .u8 k1), (S m1), v_f1, (S t1)].toArray 47 (0, 0))) ∧ (w0.heap[b4]? = some (.cells [(.int .i64 n2), (.int .u8 k2), (S m2), v_f2, (S t2)].toArray 47 (0, 0))) ∧ (Below w.heap.size w w0) ∧ (w.heap.size ≤ w0.heap.size) ∧ (i ≤ f1.length) ∧ (f1.length = f2.length) ∧ (f1.take i = f2.take i)) _ ⟨0, rfl, by kernel_rfl, by kernel_rfl, by kernel_rfl, by kernel_rfl, p_f1, p_f2, o_x2, o_x3, hb, hs, by omega, (by omega), rfl⟩ ?_
            rintro m17 s18 w19 ⟨i, hm, hds, f_2, f_3, f_5, p_f1, p_f2, o_x2, o_x3, hb, hs, i1, i2, i3⟩
            refine W_set 2 _ f_2 (W_set 3 _ f_3 (W_set 5 _ f_5 ?_))
            clear f_2 f_3 f_5
            refine W_seq (W_seq (W_region (L_mv (L_run (.pointer (some ⟨b1, 3, none⟩)) (by kernel_rfl) (by kernel_rfl) (L_load b1 3 v_f1 (by kernel_rfl) (by kernel_rfl) (cell_obj o_x2 rfl) (L_len 40 9 (f1).length v_f1 rfl Tryd.underlying40 (p_f1).len (by kernel_rfl) (L_cmp .i64 ((i : Nat) : Int) (((f1).length : Nat) : Int) (i < (f1).length) rfl (cmpN_lt i ((f1).length)) (by kernel_rfl) (by kernel_rfl) ?_ ?_)))))))
            · intro h20
              replace h20 : i < (f1).length := by omega
              refine L_nil (thenQ_normal (W_true (by kernel_rfl) (W_skip (thenQ_normal (W_seq (W_block (W_seq (W_quiet (by kernel_rfl) (by kernel_rfl) (Lq_run (.pointer (some ⟨b1, 3, none⟩)) (fun _ => by kernel_rfl) (Lq_load b1 3 v_f1 (by kernel_rfl) (fun _ => by kernel_rfl) (cell_obj o_x2 rfl) (Lq_mv ?_)))))))))))
              have hz := get_some f1 i (by omega); obtain ⟨x21, hx22⟩ := hz
              have hz := (p_f1).at (k := 1) (fun _ => rfl) hx22
              obtain ⟨g23, off24, hl25, hc26⟩ := hz
              refine Lq_ixaddr (k := .i64) v_f1 i _ g23 off24 el40 hl25 (by omega) (by kernel_rfl) (by kernel_rfl) (Lq_load g23 (off24 + i * 1) (S x21) (by kernel_rfl) (fun _ => by kernel_rfl) (hc26 0 _ rfl) (Lq_run (.pointer (some ⟨b4, 3, none⟩)) (fun _ => by kernel_rfl) (Lq_load b4 3 v_f2 (by kernel_rfl) (fun _ => by kernel_rfl) (cell_obj o_x3 rfl) (Lq_mv ?_))))
              have hz := get_some f2 i (by omega); obtain ⟨x27, hx28⟩ := hz
              have hz := (p_f2).at (k := 1) (fun _ => rfl) hx28
              obtain ⟨g29, off30, hl31, hc32⟩ := hz
              refine Lq_ixaddr (k := .i64) v_f2 i _ g29 off30 el40 hl31 (by omega) (by kernel_rfl) (by kernel_rfl) (Lq_load g29 (off30 + i * 1) (S x27) (by kernel_rfl) (fun _ => by kernel_rfl) (hc32 0 _ rfl) (Lq_sne x21 x27 rfl (by kernel_rfl) (by kernel_rfl) ?_ ?_))
              · intro h33
                refine Lq_nil ?_
                intro w34 hB35
                replace hb := hb.trans (hB35.mono hs)
                replace hs := Nat.le_trans hs (hB35.size)
                replace o_x2 := obj_below o_x2 hB35
                replace o_x3 := obj_below o_x3 hB35
                replace p_f1 := p_f1.below hB35
                replace p_f2 := p_f2.below hB35
                refine thenQ_normal (W_true (by kernel_rfl) (W_seq (W_region (L_as (L_nil (thenQ_normal (W_ret (blkQ_ret (thenQ_ret (thenQ_ret (blkQ_ret (thenQ_ret ?_))))))))))))
                refine end_ret [.tmp 4] [(.bool false)] rfl hds ⟨by kernel_rfl, trivial⟩ ?_
                have e0 : false = decide (((n1, k1, m1, f1, t1) : LineD) = ((n2, k2, m2, f2, t2) : LineD)) := by first | exact (decide_eq_true (sl_yes (by assumption) (by assumption) (by assumption) (take_all i3 i2 (by omega)) (by assumption))).symm | exact (decide_eq_false (sl_no (.inr (.inr (.inr (.inr (ne_len (by omega)))))))).symm | exact (decide_eq_false (sl_no (.inr (.inr (.inr (.inr (ne_at (by assumption) (by assumption) (by assumption)))))))).symm | exact (decide_eq_false (sl_no (.inl (by assumption)))).symm | exact (decide_eq_false (sl_no (.inr (.inl (by assumption))))).symm | exact (decide_eq_false (sl_no (.inr (.inr (.inl (by assumption)))))).symm | exact (decide_eq_false (sl_no (.inr (.inr (.inr (.inl (by assumption))))))).symm
                exact ⟨congrArg Value.bool e0, hb⟩
              · intro h36
                refine Lq_nil ?_
                intro w37 hB38
                replace hb := hb.trans (hB38.mono hs)
                replace hs := Nat.le_trans hs (hB38.size)
                replace o_x2 := obj_below o_x2 hB38
                replace o_x3 := obj_below o_x3 hB38
                replace p_f1 := p_f1.below hB38
                replace p_f2 := p_f2.below hB38
                refine thenQ_normal (W_false (by kernel_rfl) (W_skip (blkQ_normal (thenQ_normal (W_region (L_mv (L_addN i 1 (by omega) (by kernel_rfl) (by kernel_rfl) (L_as (L_nil ?_)))))))))
                refine thenQ_normal ⟨_, ?_, (i + 1), rfl, hds, by kernel_rfl, by kernel_rfl, by kernel_rfl, p_f1, p_f2, o_x2, o_x3, hb, hs, ?_, ?_, ?_⟩
                · omega
                · omega
                · exact i2
                · exact take_same i3 (by assumption) (by assumption) (by assumption)
            · intro h39
              replace h39 : (f1).length ≤ i := by omega
              refine L_nil (thenQ_normal (W_false (by kernel_rfl) (W_exit (thenQ_exit (thenQ_exit (blkQ_exit (thenQ_normal (W_seq (W_region (L_as (L_nil (thenQ_normal (W_ret ?_)))))))))))))
              refine end_ret [.tmp 4] [(.bool true)] rfl hds ⟨by kernel_rfl, trivial⟩ ?_
              have e0 : true = decide (((n1, k1, m1, f1, t1) : LineD) = ((n2, k2, m2, f2, t2) : LineD)) := by first | exact (decide_eq_true (sl_yes (by assumption) (by assumption) (by assumption) (take_all i3 i2 (by omega)) (by assumption))).symm | exact (decide_eq_false (sl_no (.inr (.inr (.inr (.inr (ne_len (by omega)))))))).symm | exact (decide_eq_false (sl_no (.inr (.inr (.inr (.inr (ne_at (by assumption) (by assumption) (by assumption)))))))).symm | exact (decide_eq_false (sl_no (.inl (by assumption)))).symm | exact (decide_eq_false (sl_no (.inr (.inl (by assumption))))).symm | exact (decide_eq_false (sl_no (.inr (.inr (.inl (by assumption)))))).symm | exact (decide_eq_false (sl_no (.inr (.inr (.inr (.inl (by assumption))))))).symm
              exact ⟨congrArg Value.bool e0, hb⟩

set_option maxHeartbeats 4000000 in
set_option maxRecDepth 100000 in
theorem c_furrowlaw03_LinesScans (no : Int) (s : List UInt8) (w : World) (hty : w.cell? ⟨0, 0, none⟩ = some (.iface 116 (.agg #[.pointer (some ⟨4, 56, none⟩)]))) (hs : s.length ≤ 1048576) :
    Calls Tryd.prog 6 #[(.int .i64 no), (S s)] w (Ret fun v w' => v = (.bool true) ∧ Below w.heap.size w w') := by
  refine enter (args := [(.int .i64 no), (S s)]) Tryd.func6 rfl (by kernel_rfl : _ = 52) (by kernel_rfl) ?_
  have hb := Below.refl w.heap.size w
  have hs : w.heap.size ≤ w.heap.size := Nat.le_refl _
  have hfl := scan_flen no s
  refine W_seq (W_region (L_as (L_nil (thenQ_normal (W_seq (W_region (L_mv (L_mv (L_call 27 [(.int .i64 no), (S s)] (by kernel_rfl) (by kernel_rfl) (c_lines_Scan no s _ (by omega)) ?_)))))))))
  rintro _ w2 ⟨q1, rfl, r_q1, hB3⟩
  replace r_q1 := r_q1.base hs
  replace hb := hb.trans (hB3.mono hs)
  replace hs := Nat.le_trans hs (hB3.size)
  have := scan_err no s
  refine L_mv (L_run (Value.agg #[(.int .i64 ((scanF no s).1.1)), (.int .u8 ((scanF no s).1.2.1)), (S ((scanF no s).1.2.2.1)), q1, (S ((scanF no s).1.2.2.2.2))]) (by kernel_rfl) (by kernel_rfl) (L_run (.int .i64 ((scanF no s).2)) (by kernel_rfl) (by kernel_rfl) (L_new (fun b => .pointer (some ⟨b, 0, none⟩)) (.cells [(.int .i64 0), (.int .u8 0), (S ([] : List UInt8)), (.slice none 0 0), (S ([] : List UInt8))].toArray 47 (0, 0)) (by kernel_rfl) (by kernel_rfl) ?_)))
  intro b5 w6 hN7
  have g_x5 : w.heap.size ≤ b5 := by rw [hN7.num]; exact hs
  replace hb := hb.trans (hN7.below.mono hs)
  replace hs := Nat.le_trans hs (hN7.below.size)
  replace r_q1 := r_q1.below hN7.below
  have o_x5 := hN7.here
  refine L_storeA b5 0 [(.int .i64 ((scanF no s).1.1)), (.int .u8 ((scanF no s).1.2.1)), (S ((scanF no s).1.2.2.1)), q1, (S ((scanF no s).1.2.2.2.2))] [(.int .i64 0), (.int .u8 0), (S ([] : List UInt8)), (.slice none 0 0), (S ([] : List UInt8))] [(.int .i64 ((scanF no s).1.1)), (.int .u8 ((scanF no s).1.2.1)), (S ((scanF no s).1.2.2.1)), q1, (S ((scanF no s).1.2.2.2.2))] 47 (by kernel_rfl) (by kernel_rfl) (allc rfl (allc rfl (allc rfl (allc r_q1.one (allc rfl rfl))))) (by kernel_rfl) o_x5 (by kernel_rfl) rfl ?_
  intro w8 hW9
  replace hb := hb.trans (hW9.below g_x5)
  replace hs := Nat.le_trans hs (Nat.le_of_eq hW9.size.symm)
  have n_r_q1 := r_q1.wrote hW9 (r_q1.ne o_x5 (by simp))
  replace r_q1 := n_r_q1; clear n_r_q1
  replace o_x5 := hW9.here
  refine L_as (L_nil (thenQ_normal (W_seq (W_region (L_mv (L_mv (L_call 27 [(.int .i64 no), (S s)] (by kernel_rfl) (by kernel_rfl) (c_lines_Scan no s _ (by omega)) ?_)))))))
  rintro _ w11 ⟨q10, rfl, r_q10, hB12⟩
  have ap_r_q10_r_q1 := ap_call r_q10 r_q1; have ap_r_q1_r_q10 := ap_comm ap_r_q10_r_q1
  replace r_q10 := r_q10.base hs
  replace hb := hb.trans (hB12.mono hs)
  replace hs := Nat.le_trans hs (hB12.size)
  replace o_x5 := obj_below o_x5 hB12
  replace r_q1 := r_q1.below hB12
  have := scan_err no s
  refine L_mv (L_run (Value.agg #[(.int .i64 ((scanF no s).1.1)), (.int .u8 ((scanF no s).1.2.1)), (S ((scanF no s).1.2.2.1)), q10, (S ((scanF no s).1.2.2.2.2))]) (by kernel_rfl) (by kernel_rfl) (L_run (.int .i64 ((scanF no s).2)) (by kernel_rfl) (by kernel_rfl) (L_new (fun b => .pointer (some ⟨b, 0, none⟩)) (.cells [(.int .i64 0), (.int .u8 0), (S ([] : List UInt8)), (.slice none 0 0), (S ([] : List UInt8))].toArray 47 (0, 0)) (by kernel_rfl) (by kernel_rfl) ?_)))
  intro b14 w15 hN16
  have ne_x5_x7 : b5 ≠ b14 := by have := (obj_lt o_x5); have := hN16.num; omega
  have ne_x7_x5 := ne_x5_x7.symm
  have g_x7 : w.heap.size ≤ b14 := by rw [hN16.num]; exact hs
  replace hb := hb.trans (hN16.below.mono hs)
  replace hs := Nat.le_trans hs (hN16.below.size)
  replace o_x5 := obj_below o_x5 hN16.below
  replace r_q1 := r_q1.below hN16.below
  replace r_q10 := r_q10.below hN16.below
  have o_x7 := hN16.here
  refine L_storeA b14 0 [(.int .i64 ((scanF no s).1.1)), (.int .u8 ((scanF no s).1.2.1)), (S ((scanF no s).1.2.2.1)), q10, (S ((scanF no s).1.2.2.2.2))] [(.int .i64 0), (.int .u8 0), (S ([] : List UInt8)), (.slice none 0 0), (S ([] : List UInt8))] [(.int .i64 ((scanF no s).1.1)), (.int .u8 ((scanF no s).1.2.1)), (S ((scanF no s).1.2.2.1)), q10, (S ((scanF no s).1.2.2.2.2))] 47 (by kernel_rfl) (by kernel_rfl) (allc rfl (allc rfl (allc rfl (allc r_q10.one (allc rfl rfl))))) (by kernel_rfl) o_x7 (by kernel_rfl) rfl ?_
  intro w17 hW18
  replace hb := hb.trans (hW18.below g_x7)
  replace hs := Nat.le_trans hs (Nat.le_of_eq hW18.size.symm)
  have n_o_x5 := obj_wrote o_x5 hW18 ne_x5_x7
  have n_r_q1 := r_q1.wrote hW18 (r_q1.ne o_x7 (by simp))
  have n_r_q10 := r_q10.wrote hW18 (r_q10.ne o_x7 (by simp))
  replace o_x5 := n_o_x5; clear n_o_x5
  replace r_q1 := n_r_q1; clear n_r_q1
  replace r_q10 := n_r_q10; clear n_r_q10
  replace o_x7 := hW18.here
  refine L_as (L_nil (thenQ_normal (W_seq (W_region (L_mv (L_mv (L_call 28 [(.int .i64 no), (S s)] (by kernel_rfl) (by kernel_rfl) (c_furrowref03_Scan no s _ (by omega)) ?_)))))))
  rintro _ w20 ⟨q19, rfl, r_q19, hB21⟩
  have ap_r_q19_r_q1 := ap_call r_q19 r_q1; have ap_r_q1_r_q19 := ap_comm ap_r_q19_r_q1
  have ap_r_q19_r_q10 := ap_call r_q19 r_q10; have ap_r_q10_r_q19 := ap_comm ap_r_q19_r_q10
  replace r_q19 := r_q19.base hs
  replace hb := hb.trans (hB21.mono hs)
  replace hs := Nat.le_trans hs (hB21.size)
  replace o_x5 := obj_below o_x5 hB21
  replace o_x7 := obj_below o_x7 hB21
  replace r_q1 := r_q1.below hB21
  replace r_q10 := r_q10.below hB21
  have := scan_err no s
  refine L_mv (L_run (Value.agg #[(.int .i64 ((scanF no s).1.1)), (.int .u8 ((scanF no s).1.2.1)), (S ((scanF no s).1.2.2.1)), q19, (S ((scanF no s).1.2.2.2.2))]) (by kernel_rfl) (by kernel_rfl) (L_run (.int .i64 ((scanF no s).2)) (by kernel_rfl) (by kernel_rfl) (L_new (fun b => .pointer (some ⟨b, 0, none⟩)) (.cells [(.int .i64 0), (.int .u8 0), (S ([] : List UInt8)), (.slice none 0 0), (S ([] : List UInt8))].toArray 47 (0, 0)) (by kernel_rfl) (by kernel_rfl) ?_)))
  intro b23 w24 hN25
  have ne_x5_x9 : b5 ≠ b23 := by have := (obj_lt o_x5); have := hN25.num; omega
  have ne_x9_x5 := ne_x5_x9.symm
  have ne_x7_x9 : b14 ≠ b23 := by have := (obj_lt o_x7); have := hN25.num; omega
  have ne_x9_x7 := ne_x7_x9.symm
  have g_x9 : w.heap.size ≤ b23 := by rw [hN25.num]; exact hs
  replace hb := hb.trans (hN25.below.mono hs)
  replace hs := Nat.le_trans hs (hN25.below.size)
  replace o_x5 := obj_below o_x5 hN25.below
  replace o_x7 := obj_below o_x7 hN25.below
  replace r_q1 := r_q1.below hN25.below
  replace r_q10 := r_q10.below hN25.below
  replace r_q19 := r_q19.below hN25.below
  have o_x9 := hN25.here
  refine L_storeA b23 0 [(.int .i64 ((scanF no s).1.1)), (.int .u8 ((scanF no s).1.2.1)), (S ((scanF no s).1.2.2.1)), q19, (S ((scanF no s).1.2.2.2.2))] [(.int .i64 0), (.int .u8 0), (S ([] : List UInt8)), (.slice none 0 0), (S ([] : List UInt8))] [(.int .i64 ((scanF no s).1.1)), (.int .u8 ((scanF no s).1.2.1)), (S ((scanF no s).1.2.2.1)), q19, (S ((scanF no s).1.2.2.2.2))] 47 (by kernel_rfl) (by kernel_rfl) (allc rfl (allc rfl (allc rfl (allc r_q19.one (allc rfl rfl))))) (by kernel_rfl) o_x9 (by kernel_rfl) rfl ?_
  intro w26 hW27
  replace hb := hb.trans (hW27.below g_x9)
  replace hs := Nat.le_trans hs (Nat.le_of_eq hW27.size.symm)
  have n_o_x5 := obj_wrote o_x5 hW27 ne_x5_x9
  have n_o_x7 := obj_wrote o_x7 hW27 ne_x7_x9
  have n_r_q1 := r_q1.wrote hW27 (r_q1.ne o_x9 (by simp))
  have n_r_q10 := r_q10.wrote hW27 (r_q10.ne o_x9 (by simp))
  have n_r_q19 := r_q19.wrote hW27 (r_q19.ne o_x9 (by simp))
  replace o_x5 := n_o_x5; clear n_o_x5
  replace o_x7 := n_o_x7; clear n_o_x7
  replace r_q1 := n_r_q1; clear n_r_q1
  replace r_q10 := n_r_q10; clear n_r_q10
  replace r_q19 := n_r_q19; clear n_r_q19
  replace o_x9 := hW27.here
  refine L_as (L_nil (thenQ_normal (W_seq (W_seq (W_region (L_mv (L_mv (L_cmp .i64 ((scanF no s).2) ((scanF no s).2) ((scanF no s).2 ≠ (scanF no s).2) rfl (cmp_ne ((scanF no s).2) ((scanF no s).2)) (by kernel_rfl) (by kernel_rfl) ?_ ?_))))))))
  · intro h28
    replace h28 : (scanF no s).2 ≠ (scanF no s).2 := by omega
    exact (h28 rfl).elim
  · intro h29
    replace h29 : (scanF no s).2 = (scanF no s).2 := by omega
    refine L_mv (L_want (by kernel_rfl) (L_mv (L_want (by kernel_rfl) (L_mv (L_want (by kernel_rfl) (L_cmp .i64 ((scanF no s).2) ((scanF no s).2) ((scanF no s).2 ≠ (scanF no s).2) rfl (cmp_ne ((scanF no s).2) ((scanF no s).2)) (by kernel_rfl) (by kernel_rfl) ?_ ?_))))))
    · intro h30
      replace h30 : (scanF no s).2 ≠ (scanF no s).2 := by omega
      exact (h30 rfl).elim
    · intro h31
      replace h31 : (scanF no s).2 = (scanF no s).2 := by omega
      refine L_pickF (by kernel_rfl) (L_mv (L_want (by kernel_rfl) (L_loadA b5 0 [(.int .i64 ((scanF no s).1.1)), (.int .u8 ((scanF no s).1.2.1)), (S ((scanF no s).1.2.2.1)), q1, (S ((scanF no s).1.2.2.2.2))] (by kernel_rfl) (by kernel_rfl) (by kernel_rfl) (cells_at o_x5 0 (by kernel_rfl)) (L_want (by kernel_rfl) (L_loadA b23 0 [(.int .i64 ((scanF no s).1.1)), (.int .u8 ((scanF no s).1.2.1)), (S ((scanF no s).1.2.2.1)), q19, (S ((scanF no s).1.2.2.2.2))] (by kernel_rfl) (by kernel_rfl) (by kernel_rfl) (cells_at o_x9 0 (by kernel_rfl)) (L_want (by kernel_rfl) (L_call 29 [(Value.agg #[(.int .i64 ((scanF no s).1.1)), (.int .u8 ((scanF no s).1.2.1)), (S ((scanF no s).1.2.2.1)), q1, (S ((scanF no s).1.2.2.2.2))]), (Value.agg #[(.int .i64 ((scanF no s).1.1)), (.int .u8 ((scanF no s).1.2.1)), (S ((scanF no s).1.2.2.1)), q19, (S ((scanF no s).1.2.2.2.2))])] (by kernel_rfl) (by kernel_rfl) (c_furrowref03_Same ((scanF no s).1.1) ((scanF no s).1.2.1) ((scanF no s).1.2.2.1) q1 ((scanF no s).1.2.2.2.1) ((scanF no s).1.2.2.2.2) ((scanF no s).1.1) ((scanF no s).1.2.1) ((scanF no s).1.2.2.1) q19 ((scanF no s).1.2.2.2.1) ((scanF no s).1.2.2.2.2) _ r_q1.rd r_q19.rd (by omega) (by omega)) ?_)))))))
      rintro _ w32 ⟨rfl, hB33⟩
      replace hb := hb.trans (hB33.mono hs)
      replace hs := Nat.le_trans hs (hB33.size)
      replace o_x5 := obj_below o_x5 hB33
      replace o_x7 := obj_below o_x7 hB33
      replace o_x9 := obj_below o_x9 hB33
      replace r_q1 := r_q1.below hB33
      replace r_q10 := r_q10.below hB33
      replace r_q19 := r_q19.below hB33
      refine put_split (decide (((((scanF no s).1.1), ((scanF no s).1.2.1), ((scanF no s).1.2.2.1), ((scanF no s).1.2.2.2.1), ((scanF no s).1.2.2.2.2)) : LineD) = ((((scanF no s).1.1), ((scanF no s).1.2.1), ((scanF no s).1.2.2.1), ((scanF no s).1.2.2.2.1), ((scanF no s).1.2.2.2.2)) : LineD))) ?_ ?_
      · intro h35
        refine L_want (by kernel_rfl) (L_not true (by kernel_rfl) (L_pickF (by kernel_rfl) (L_nil (thenQ_normal (W_false (by kernel_rfl) (W_skip (thenQ_normal (W_seq (W_region (L_run (.pointer (some ⟨b5, 3, none⟩)) (by kernel_rfl) (by kernel_rfl) (L_load b5 3 q1 (by kernel_rfl) (by kernel_rfl) (cell_obj o_x5 rfl) (L_call 26 [q1] (by kernel_rfl) (by kernel_rfl) (c_furrowlaw03_spoil w.heap.size q1 ((scanF no s).1.2.2.2.1) _ hs r_q1 (by omega)) ?_))))))))))))
        rintro _ w36 ⟨rfl, hC37⟩
        replace hb := hC37.below hb hs (fun k e => (World.ownsRow.lt r_q1 k e).1)
        replace hs := Nat.le_trans hs hC37.size
        have n_o_x5 := obj_ch_row o_x5 hC37 (r_q1.ne o_x5 (by simp))
        have n_o_x7 := obj_ch_row o_x7 hC37 (r_q1.ne o_x7 (by simp))
        have n_o_x9 := obj_ch_row o_x9 hC37 (r_q1.ne o_x9 (by simp))
        have n_r_q10 := r_q10.ch_row hC37 ap_r_q10_r_q1
        have n_r_q19 := r_q19.ch_row hC37 ap_r_q19_r_q1
        replace o_x5 := n_o_x5; clear n_o_x5
        replace o_x7 := n_o_x7; clear n_o_x7
        replace o_x9 := n_o_x9; clear n_o_x9
        replace r_q10 := n_r_q10; clear n_r_q10
        replace r_q19 := n_r_q19; clear n_r_q19
        refine L_nil (thenQ_normal (W_seq (W_region (L_loadA b14 0 [(.int .i64 ((scanF no s).1.1)), (.int .u8 ((scanF no s).1.2.1)), (S ((scanF no s).1.2.2.1)), q10, (S ((scanF no s).1.2.2.2.2))] (by kernel_rfl) (by kernel_rfl) (by kernel_rfl) (cells_at o_x7 0 (by kernel_rfl)) (L_loadA b23 0 [(.int .i64 ((scanF no s).1.1)), (.int .u8 ((scanF no s).1.2.1)), (S ((scanF no s).1.2.2.1)), q19, (S ((scanF no s).1.2.2.2.2))] (by kernel_rfl) (by kernel_rfl) (by kernel_rfl) (cells_at o_x9 0 (by kernel_rfl)) (L_call 29 [(Value.agg #[(.int .i64 ((scanF no s).1.1)), (.int .u8 ((scanF no s).1.2.1)), (S ((scanF no s).1.2.2.1)), q10, (S ((scanF no s).1.2.2.2.2))]), (Value.agg #[(.int .i64 ((scanF no s).1.1)), (.int .u8 ((scanF no s).1.2.1)), (S ((scanF no s).1.2.2.1)), q19, (S ((scanF no s).1.2.2.2.2))])] (by kernel_rfl) (by kernel_rfl) (c_furrowref03_Same ((scanF no s).1.1) ((scanF no s).1.2.1) ((scanF no s).1.2.2.1) q10 ((scanF no s).1.2.2.2.1) ((scanF no s).1.2.2.2.2) ((scanF no s).1.1) ((scanF no s).1.2.1) ((scanF no s).1.2.2.1) q19 ((scanF no s).1.2.2.2.1) ((scanF no s).1.2.2.2.2) _ r_q10.rd r_q19.rd (by omega) (by omega)) ?_))))))
        rintro _ w38 ⟨rfl, hB39⟩
        replace hb := hb.trans (hB39.mono hs)
        replace hs := Nat.le_trans hs (hB39.size)
        replace o_x5 := obj_below o_x5 hB39
        replace o_x7 := obj_below o_x7 hB39
        replace o_x9 := obj_below o_x9 hB39
        replace r_q10 := r_q10.below hB39
        replace r_q19 := r_q19.below hB39
        refine put_split (decide (((((scanF no s).1.1), ((scanF no s).1.2.1), ((scanF no s).1.2.2.1), ((scanF no s).1.2.2.2.1), ((scanF no s).1.2.2.2.2)) : LineD) = ((((scanF no s).1.1), ((scanF no s).1.2.1), ((scanF no s).1.2.2.1), ((scanF no s).1.2.2.2.1), ((scanF no s).1.2.2.2.2)) : LineD))) ?_ ?_
        · intro h41
          refine L_mv (L_want (by kernel_rfl) (L_call 16 [] (by kernel_rfl) (by kernel_rfl) (c_furrowlaw03_awake  _ (gcell_below hty hb)) ?_))
          rintro _ w42 ⟨rfl, hB43⟩
          replace hb := hb.trans (hB43.mono hs)
          replace hs := Nat.le_trans hs (hB43.size)
          replace o_x5 := obj_below o_x5 hB43
          replace o_x7 := obj_below o_x7 hB43
          replace o_x9 := obj_below o_x9 hB43
          replace r_q10 := r_q10.below hB43
          replace r_q19 := r_q19.below hB43
          refine L_pickT (by kernel_rfl) (L_as (L_nil (thenQ_normal (W_ret ?_))))
          refine end_ret [.tmp 4] [(.bool true)] rfl rfl ⟨by kernel_rfl, trivial⟩ ?_
          have e0 : true = true := by first | rfl | (simp; done)
          exact ⟨congrArg Value.bool e0, hb⟩
        · intro h45
          exfalso; simp at h45
      · intro h46
        exfalso; simp at h46

set_option maxHeartbeats 4000000 in
set_option maxRecDepth 100000 in
theorem c_furrowlaw03_LinesChecks (s : List UInt8) (w : World) (hty : w.cell? ⟨0, 0, none⟩ = some (.iface 116 (.agg #[.pointer (some ⟨4, 56, none⟩)]))) (hs : s.length ≤ 1073741824) :
    Calls Tryd.prog 4 #[(S s)] w (Ret fun v w' => v = (.bool true) ∧ Below w.heap.size w w') := by
  refine enter (args := [(S s)]) Tryd.func4 rfl (by kernel_rfl : _ = 28) (by kernel_rfl) ?_
  have hb := Below.refl w.heap.size w
  have hs : w.heap.size ≤ w.heap.size := Nat.le_refl _
  refine W_seq (W_region (L_as (L_nil (thenQ_normal (W_seq (W_region (L_mv (L_call 21 [(S s)] (by kernel_rfl) (by kernel_rfl) (c_lines_Check s _ (by omega)) ?_))))))))
  rintro _ w1 ⟨rfl, hB2⟩
  replace hb := hb.trans (hB2.mono hs)
  replace hs := Nat.le_trans hs (hB2.size)
  have := chkF_range s
  refine L_mv (L_run (.int .i64 (((chkF s).1 : Nat) : Int)) (by kernel_rfl) (by kernel_rfl) (L_run (.int .i64 ((chkF s).2)) (by kernel_rfl) (by kernel_rfl) (L_as (L_as (L_nil (thenQ_normal (W_seq (W_region (L_mv (L_call 22 [(S s)] (by kernel_rfl) (by kernel_rfl) (c_furrowref03_Check s _ (by omega)) ?_))))))))))
  rintro _ w4 ⟨rfl, hB5⟩
  replace hb := hb.trans (hB5.mono hs)
  replace hs := Nat.le_trans hs (hB5.size)
  have := chkF_range s
  refine L_mv (L_run (.int .i64 (((chkF s).1 : Nat) : Int)) (by kernel_rfl) (by kernel_rfl) (L_run (.int .i64 ((chkF s).2)) (by kernel_rfl) (by kernel_rfl) (L_as (L_as (L_nil (thenQ_normal (W_seq (W_region (L_mv (L_mv (L_cmp .i64 (((chkF s).1 : Nat) : Int) (((chkF s).1 : Nat) : Int) ((chkF s).1 = (chkF s).1) rfl (cmpN_eq ((chkF s).1) ((chkF s).1)) (by kernel_rfl) (by kernel_rfl) ?_ ?_)))))))))))
  · intro h7
    replace h7 : (chkF s).1 = (chkF s).1 := by omega
    refine L_mv (L_want (by kernel_rfl) (L_mv (L_want (by kernel_rfl) (L_mv (L_want (by kernel_rfl) (L_cmp .i64 ((chkF s).2) ((chkF s).2) ((chkF s).2 = (chkF s).2) rfl (cmp_eq ((chkF s).2) ((chkF s).2)) (by kernel_rfl) (by kernel_rfl) ?_ ?_))))))
    · intro h8
      replace h8 : (chkF s).2 = (chkF s).2 := by omega
      refine L_pickT (by kernel_rfl) (L_mv (L_want (by kernel_rfl) (L_call 16 [] (by kernel_rfl) (by kernel_rfl) (c_furrowlaw03_awake  _ (gcell_below hty hb)) ?_)))
      rintro _ w9 ⟨rfl, hB10⟩
      replace hb := hb.trans (hB10.mono hs)
      replace hs := Nat.le_trans hs (hB10.size)
      refine L_pickT (by kernel_rfl) (L_as (L_nil (thenQ_normal (W_ret ?_))))
      refine end_ret [.tmp 2] [(.bool true)] rfl rfl ⟨by kernel_rfl, trivial⟩ ?_
      have e0 : true = true := by rfl
      exact ⟨congrArg Value.bool e0, hb⟩
    · intro h12
      replace h12 : (chkF s).2 ≠ (chkF s).2 := by omega
      exact (h12 rfl).elim
  · intro h13
    replace h13 : (chkF s).1 ≠ (chkF s).1 := by omega
    exact (h13 rfl).elim

end Go.Proofs.YtapndpldphflcaaDoor
