/- Walks, written by my program walk.py out of the specification lplace.py: each theorem says what one function returns and that it leaves memory as it was. -/
import Derived.Test.YtapndpldphflcaaDoorPLplc
import Derived.Test.YtapndpldphflcaaDoorWllines
import Derived.Test.YtapndpldphflcaaDoorWlscan
import Derived.Test.YtapndpldphflcaaDoorWlread
import Derived.Test.YtapndpldphflcaaDoorWlawake
import Derived.Test.YtapndpldphflcaaDoorWlref
import Derived.Test.YtapndpldphflcaaDoorFKu
import Derived.Test.YtapndpldphflcaaDoorProg
import Derived.Tactics2
namespace Go.Proofs.YtapndpldphflcaaDoor
open Go Go.RowKit Go.FK
set_option linter.unusedVariables false
set_option linter.unusedSimpArgs false


set_option maxHeartbeats 4000000 in
set_option maxRecDepth 100000 in
theorem c_furrowref03_ends (s : List UInt8) (w : World) (hs : s.length ≤ 1073741824) :
    Calls Tryd.prog 59 #[(S s)] w (Ret fun v w' => ∃ (q0 : Value), v = q0 ∧ Row w' w.heap.size 75 3 encPcN q0 (endsF s) ∧ Below w.heap.size w w') := by
  refine enter (args := [(S s)]) Tryd.func59 rfl (by kernel_rfl : _ = 48) (by kernel_rfl) ?_
  have hb := Below.refl w.heap.size w
  have hs : w.heap.size ≤ w.heap.size := Nat.le_refl _
  have hpl := pcsR_len s
  have hml := mark_len s
  refine W_seq (W_region (L_as (L_nil (thenQ_normal (W_seq (W_region (L_mv (L_call 17 [(S s)] (by kernel_rfl) (by kernel_rfl) (c_furrowref03_Pieces s _ (by omega)) ?_))))))))
  rintro q1 w2 ⟨_, rfl, r_q1, hB3⟩
  replace r_q1 := r_q1.base hs
  replace hb := hb.trans (hB3.mono hs)
  replace hs := Nat.le_trans hs (hB3.size)
  refine L_as (L_nil (thenQ_normal (W_seq (W_seq (W_quiet (by kernel_rfl) (by kernel_rfl) (Lq_mv (Lq_len 23 75 (pcsR s).length q1 rfl Tryd.underlying23 (r_q1.rd).len (by kernel_rfl) (Lq_cmp .i64 (((pcsR s).length : Nat) : Int) ((0 : Nat) : Int) ((pcsR s).length = 0) rfl (cmpN_eq ((pcsR s).length) 0) (by kernel_rfl) (by kernel_rfl) ?_ ?_))))))))
  · intro h5
    replace h5 : (pcsR s).length = 0 := by omega
    refine Lq_mv (Lq_skip (by kernel_rfl) (Lq_skip (by kernel_rfl) (Lq_skip (by kernel_rfl) (Lq_skip (by kernel_rfl) (Lq_skip (by kernel_rfl) (Lq_skip (by kernel_rfl) (Lq_skip (by kernel_rfl) (Lq_skip (by kernel_rfl) (Lq_skip (by kernel_rfl) (Lq_skip (by kernel_rfl) (Lq_skip (by kernel_rfl) (Lq_skip (by kernel_rfl) (Lq_skip (by kernel_rfl) (Lq_skip (by kernel_rfl) (Lq_skip (by kernel_rfl) (Lq_pickT (by kernel_rfl) (Lq_nil ?_)))))))))))))))))
    intro w6 hB7
    replace hb := hb.trans (hB7.mono hs)
    replace hs := Nat.le_trans hs (hB7.size)
    replace r_q1 := r_q1.below hB7
    refine thenQ_normal (W_true (by kernel_rfl) (W_seq (W_region (L_mv (L_call 34 [(S s)] (by kernel_rfl) (by kernel_rfl) (c_furrowref03_Marked s _ (by omega)) ?_)))))
    rintro _ w8 ⟨rfl, hB9⟩
    replace hb := hb.trans (hB9.mono hs)
    replace hs := Nat.le_trans hs (hB9.size)
    replace r_q1 := r_q1.below hB9
    have := mark_len s
    refine L_maxN (markN s) 0 (by kernel_rfl) (by kernel_rfl) (L_as (L_nil (thenQ_normal (W_seq (W_seq (W_region (L_mv (L_len 23 75 (pcsR s).length q1 rfl Tryd.underlying23 (r_q1.rd).len (by kernel_rfl) (L_cmp .i64 (((pcsR s).length : Nat) : Int) ((0 : Nat) : Int) (0 < (pcsR s).length) rfl (cmpN_gt ((pcsR s).length) 0) (by kernel_rfl) (by kernel_rfl) ?_ ?_)))))))))
    · intro h11
      replace h11 : 0 < (pcsR s).length := by omega
      refine L_nil (thenQ_normal (W_true (by kernel_rfl) (W_region (L_mv (L_mv (L_len 23 75 (pcsR s).length q1 rfl Tryd.underlying23 (r_q1.rd).len (by kernel_rfl) (L_subN ((pcsR s).length) 1 (by omega) (by omega) (by kernel_rfl) (by kernel_rfl) ?_)))))))
      have hz := get_some (pcsR s) ((pcsR s).length - 1) (by omega); obtain ⟨x12, hx13⟩ := hz
      have hz := (r_q1.rd).at (k := 3) (fun _ => rfl) hx13
      obtain ⟨g14, off15, hl16, hc17⟩ := hz
      have hp_x12 := pcsR_ok hx13
      refine L_ixaddr (k := .i64) q1 ((pcsR s).length - 1) _ g14 off15 el23 hl16 (by omega) (by kernel_rfl) (by kernel_rfl) (L_run (.pointer (some ⟨g14, ((off15 + ((pcsR s).length - 1) * 3) + 2), none⟩)) (by kernel_rfl) (by kernel_rfl) (L_load g14 ((off15 + ((pcsR s).length - 1) * 3) + 2) (.int .i64 ((x12.2.2 : Nat) : Int)) (by kernel_rfl) (by kernel_rfl) (hc17 2 _ rfl) (L_as (L_nil (thenQ_normal (W_region (L_mv (L_mv (L_mv (L_mv (L_run (Value.agg #[(.int .i64 ((x12.2.2 : Nat) : Int)), (.int .i64 ((x12.2.2 : Nat) : Int)), (.int .i64 ((x12.2.2 : Nat) : Int))]) (by kernel_rfl) (by kernel_rfl) (L_app el23 w.heap.size q1 (pcsR s) (x12.2.2, x12.2.2, x12.2.2) hs r_q1 (by omega) (by kernel_rfl) rfl rfl (by kernel_rfl) rfl (by kernel_rfl) (by kernel_rfl) ?_))))))))))))
      intro v18 w19 hr20 hg21 how22
      replace hb := hb.grown hg21 hs (fun k hk => (World.ownsRow.lt r_q1 k hk).1)
      replace hs := Nat.le_trans hs (hg21.size)
      replace r_q1 := hr20
      refine L_as (L_nil (thenQ_normal (W_seq (W_region (L_mv (L_as (L_nil (thenQ_normal (W_ret ?_)))))))))
      refine end_ret [.tmp 2] [v18] rfl rfl ⟨by kernel_rfl, trivial⟩ ?_
      have e51 : (pcsR s ++ [(x12.2.2, x12.2.2, x12.2.2)]) = endsF s := by first | exact ends_more (.inl ⟨by omega, rfl⟩) | exact ends_more (.inr ⟨_, by assumption, by omega, rfl⟩) | exact ends_same (by assumption) (by omega) | (exfalso; omega)
      exact ⟨v18, rfl, r_q1.cast e51, hb⟩
    · intro h23
      replace h23 : (pcsR s).length ≤ 0 := by omega
      refine L_nil (thenQ_normal (W_false (by kernel_rfl) (W_skip (thenQ_normal (W_region (L_mv (L_mv (L_mv (L_mv (L_run (Value.agg #[(.int .i64 (((max (markN s) 0) : Nat) : Int)), (.int .i64 (((max (markN s) 0) : Nat) : Int)), (.int .i64 (((max (markN s) 0) : Nat) : Int))]) (by kernel_rfl) (by kernel_rfl) (L_app el23 w.heap.size q1 (pcsR s) ((max (markN s) 0), (max (markN s) 0), (max (markN s) 0)) hs r_q1 (by omega) (by kernel_rfl) rfl rfl (by kernel_rfl) rfl (by kernel_rfl) (by kernel_rfl) ?_)))))))))))
      intro v24 w25 hr26 hg27 how28
      replace hb := hb.grown hg27 hs (fun k hk => (World.ownsRow.lt r_q1 k hk).1)
      replace hs := Nat.le_trans hs (hg27.size)
      replace r_q1 := hr26
      refine L_as (L_nil (thenQ_normal (W_seq (W_region (L_mv (L_as (L_nil (thenQ_normal (W_ret ?_)))))))))
      refine end_ret [.tmp 2] [v24] rfl rfl ⟨by kernel_rfl, trivial⟩ ?_
      have e51 : (pcsR s ++ [((max (markN s) 0), (max (markN s) 0), (max (markN s) 0))]) = endsF s := by first | exact ends_more (.inl ⟨by omega, rfl⟩) | exact ends_more (.inr ⟨_, by assumption, by omega, rfl⟩) | exact ends_same (by assumption) (by omega) | (exfalso; omega)
      exact ⟨v24, rfl, r_q1.cast e51, hb⟩
  · intro h29
    replace h29 : (pcsR s).length ≠ 0 := by omega
    refine Lq_mv (Lq_want (by kernel_rfl) (Lq_mv (Lq_want (by kernel_rfl) (Lq_mv (Lq_want (by kernel_rfl) (Lq_len 23 75 (pcsR s).length q1 rfl Tryd.underlying23 (r_q1.rd).len (by kernel_rfl) (Lq_want (by kernel_rfl) (Lq_subN ((pcsR s).length) 1 (by omega) (by omega) (by kernel_rfl) (by kernel_rfl) (Lq_want (by kernel_rfl) ?_)))))))))
    have hz := get_some (pcsR s) ((pcsR s).length - 1) (by omega); obtain ⟨x30, hx31⟩ := hz
    have hz := (r_q1.rd).at (k := 3) (fun _ => rfl) hx31
    obtain ⟨g32, off33, hl34, hc35⟩ := hz
    have hp_x30 := pcsR_ok hx31
    refine Lq_ixaddr (k := .i64) q1 ((pcsR s).length - 1) _ g32 off33 el23 hl34 (by omega) (by kernel_rfl) (by kernel_rfl) (Lq_want (by kernel_rfl) (Lq_run (.pointer (some ⟨g32, ((off33 + ((pcsR s).length - 1) * 3) + 1), none⟩)) (fun _ => by kernel_rfl) (Lq_want (by kernel_rfl) (Lq_load g32 ((off33 + ((pcsR s).length - 1) * 3) + 1) (.int .i64 ((x30.2.1 : Nat) : Int)) (by kernel_rfl) (fun _ => by kernel_rfl) (hc35 1 _ rfl) (Lq_want (by kernel_rfl) (Lq_mv (Lq_want (by kernel_rfl) (Lq_mv (Lq_want (by kernel_rfl) (Lq_len 23 75 (pcsR s).length q1 rfl Tryd.underlying23 (r_q1.rd).len (by kernel_rfl) (Lq_want (by kernel_rfl) (Lq_subN ((pcsR s).length) 1 (by omega) (by omega) (by kernel_rfl) (by kernel_rfl) (Lq_want (by kernel_rfl) ?_)))))))))))))
    have hz := (r_q1.rd).at (k := 3) (fun _ => rfl) hx31
    obtain ⟨g38, off39, hl40, hc41⟩ := hz
    refine Lq_ixaddr (k := .i64) q1 ((pcsR s).length - 1) _ g38 off39 el23 hl40 (by omega) (by kernel_rfl) (by kernel_rfl) (Lq_want (by kernel_rfl) (Lq_run (.pointer (some ⟨g38, ((off39 + ((pcsR s).length - 1) * 3) + 2), none⟩)) (fun _ => by kernel_rfl) (Lq_want (by kernel_rfl) (Lq_load g38 ((off39 + ((pcsR s).length - 1) * 3) + 2) (.int .i64 ((x30.2.2 : Nat) : Int)) (by kernel_rfl) (fun _ => by kernel_rfl) (hc41 2 _ rfl) (Lq_want (by kernel_rfl) (Lq_cmp .i64 ((x30.2.1 : Nat) : Int) ((x30.2.2 : Nat) : Int) (x30.2.1 < x30.2.2) rfl (cmpN_lt x30.2.1 x30.2.2) (by kernel_rfl) (by kernel_rfl) ?_ ?_))))))
    · intro h42
      replace h42 : x30.2.1 < x30.2.2 := by omega
      refine Lq_pickF (by kernel_rfl) (Lq_nil ?_)
      intro w43 hB44
      replace hb := hb.trans (hB44.mono hs)
      replace hs := Nat.le_trans hs (hB44.size)
      replace r_q1 := r_q1.below hB44
      refine thenQ_normal (W_true (by kernel_rfl) (W_seq (W_region (L_mv (L_call 34 [(S s)] (by kernel_rfl) (by kernel_rfl) (c_furrowref03_Marked s _ (by omega)) ?_)))))
      rintro _ w45 ⟨rfl, hB46⟩
      replace hb := hb.trans (hB46.mono hs)
      replace hs := Nat.le_trans hs (hB46.size)
      replace r_q1 := r_q1.below hB46
      have := mark_len s
      refine L_maxN (markN s) 0 (by kernel_rfl) (by kernel_rfl) (L_as (L_nil (thenQ_normal (W_seq (W_seq (W_region (L_mv (L_len 23 75 (pcsR s).length q1 rfl Tryd.underlying23 (r_q1.rd).len (by kernel_rfl) (L_cmp .i64 (((pcsR s).length : Nat) : Int) ((0 : Nat) : Int) (0 < (pcsR s).length) rfl (cmpN_gt ((pcsR s).length) 0) (by kernel_rfl) (by kernel_rfl) ?_ ?_)))))))))
      · intro h48
        replace h48 : 0 < (pcsR s).length := by omega
        refine L_nil (thenQ_normal (W_true (by kernel_rfl) (W_region (L_mv (L_mv (L_len 23 75 (pcsR s).length q1 rfl Tryd.underlying23 (r_q1.rd).len (by kernel_rfl) (L_subN ((pcsR s).length) 1 (by omega) (by omega) (by kernel_rfl) (by kernel_rfl) ?_)))))))
        have hz := (r_q1.rd).at (k := 3) (fun _ => rfl) hx31
        obtain ⟨g51, off52, hl53, hc54⟩ := hz
        refine L_ixaddr (k := .i64) q1 ((pcsR s).length - 1) _ g51 off52 el23 hl53 (by omega) (by kernel_rfl) (by kernel_rfl) (L_run (.pointer (some ⟨g51, ((off52 + ((pcsR s).length - 1) * 3) + 2), none⟩)) (by kernel_rfl) (by kernel_rfl) (L_load g51 ((off52 + ((pcsR s).length - 1) * 3) + 2) (.int .i64 ((x30.2.2 : Nat) : Int)) (by kernel_rfl) (by kernel_rfl) (hc54 2 _ rfl) (L_as (L_nil (thenQ_normal (W_region (L_mv (L_mv (L_mv (L_mv (L_run (Value.agg #[(.int .i64 ((x30.2.2 : Nat) : Int)), (.int .i64 ((x30.2.2 : Nat) : Int)), (.int .i64 ((x30.2.2 : Nat) : Int))]) (by kernel_rfl) (by kernel_rfl) (L_app el23 w.heap.size q1 (pcsR s) (x30.2.2, x30.2.2, x30.2.2) hs r_q1 (by omega) (by kernel_rfl) rfl rfl (by kernel_rfl) rfl (by kernel_rfl) (by kernel_rfl) ?_))))))))))))
        intro v55 w56 hr57 hg58 how59
        replace hb := hb.grown hg58 hs (fun k hk => (World.ownsRow.lt r_q1 k hk).1)
        replace hs := Nat.le_trans hs (hg58.size)
        replace r_q1 := hr57
        refine L_as (L_nil (thenQ_normal (W_seq (W_region (L_mv (L_as (L_nil (thenQ_normal (W_ret ?_)))))))))
        refine end_ret [.tmp 2] [v55] rfl rfl ⟨by kernel_rfl, trivial⟩ ?_
        have e51 : (pcsR s ++ [(x30.2.2, x30.2.2, x30.2.2)]) = endsF s := by first | exact ends_more (.inl ⟨by omega, rfl⟩) | exact ends_more (.inr ⟨_, by assumption, by omega, rfl⟩) | exact ends_same (by assumption) (by omega) | (exfalso; omega)
        exact ⟨v55, rfl, r_q1.cast e51, hb⟩
      · intro h60
        replace h60 : (pcsR s).length ≤ 0 := by omega
        refine L_nil (thenQ_normal (W_false (by kernel_rfl) (W_skip (thenQ_normal (W_region (L_mv (L_mv (L_mv (L_mv (L_run (Value.agg #[(.int .i64 (((max (markN s) 0) : Nat) : Int)), (.int .i64 (((max (markN s) 0) : Nat) : Int)), (.int .i64 (((max (markN s) 0) : Nat) : Int))]) (by kernel_rfl) (by kernel_rfl) (L_app el23 w.heap.size q1 (pcsR s) ((max (markN s) 0), (max (markN s) 0), (max (markN s) 0)) hs r_q1 (by omega) (by kernel_rfl) rfl rfl (by kernel_rfl) rfl (by kernel_rfl) (by kernel_rfl) ?_)))))))))))
        intro v61 w62 hr63 hg64 how65
        replace hb := hb.grown hg64 hs (fun k hk => (World.ownsRow.lt r_q1 k hk).1)
        replace hs := Nat.le_trans hs (hg64.size)
        replace r_q1 := hr63
        refine L_as (L_nil (thenQ_normal (W_seq (W_region (L_mv (L_as (L_nil (thenQ_normal (W_ret ?_)))))))))
        refine end_ret [.tmp 2] [v61] rfl rfl ⟨by kernel_rfl, trivial⟩ ?_
        have e51 : (pcsR s ++ [((max (markN s) 0), (max (markN s) 0), (max (markN s) 0))]) = endsF s := by first | exact ends_more (.inl ⟨by omega, rfl⟩) | exact ends_more (.inr ⟨_, by assumption, by omega, rfl⟩) | exact ends_same (by assumption) (by omega) | (exfalso; omega)
        exact ⟨v61, rfl, r_q1.cast e51, hb⟩
    · intro h66
      replace h66 : x30.2.2 ≤ x30.2.1 := by omega
      refine Lq_pickF (by kernel_rfl) (Lq_nil ?_)
      intro w67 hB68
      replace hb := hb.trans (hB68.mono hs)
      replace hs := Nat.le_trans hs (hB68.size)
      replace r_q1 := r_q1.below hB68
      refine thenQ_normal (W_false (by kernel_rfl) (W_skip (thenQ_normal (W_seq (W_region (L_mv (L_as (L_nil (thenQ_normal (W_ret ?_))))))))))
      refine end_ret [.tmp 2] [q1] rfl rfl ⟨by kernel_rfl, trivial⟩ ?_
      have e51 : pcsR s = endsF s := by first | exact ends_more (.inl ⟨by omega, rfl⟩) | exact ends_more (.inr ⟨_, by assumption, by omega, rfl⟩) | exact ends_same (by assumption) (by omega) | (exfalso; omega)
      exact ⟨q1, rfl, r_q1.cast e51, hb⟩

set_option maxHeartbeats 4000000 in
set_option maxRecDepth 100000 in
theorem c_furrowref03_Place (s : List UInt8) (line : Int) (col : Int) (w : World) (hs : s.length ≤ 1073741824) :
    Calls Tryd.prog 36 #[(S s), (.int .i64 line), (.int .i64 col)] w (Ret fun v w' => v = (.tuple #[(.int .i64 ((placeF s line col).1)), (.int .i64 ((placeF s line col).2))]) ∧ Below w.heap.size w w') := by
  refine enter (args := [(S s), (.int .i64 line), (.int .i64 col)]) Tryd.func36 rfl (by kernel_rfl : _ = 59) (by kernel_rfl) ?_
  have hb := Below.refl w.heap.size w
  have hs : w.heap.size ≤ w.heap.size := Nat.le_refl _
  refine W_seq (W_region (L_as (L_as (L_nil (thenQ_normal (W_seq (W_region (L_mv (L_call 59 [(S s)] (by kernel_rfl) (by kernel_rfl) (c_furrowref03_ends s _ (by first | omega | (simp only [List.length_drop, List.length_take]; omega))) ?_)))))))))
  rintro q1 w2 ⟨_, rfl, r_q1, hB3⟩
  replace r_q1 := r_q1.base hs
  replace hb := hb.trans (hB3.mono hs)
  replace hs := Nat.le_trans hs (hB3.size)
  have := ends_len s
  refine L_as (L_nil (thenQ_normal (W_seq (W_seq (W_region (L_mv (L_cmp .i64 line 1 (line < 1) rfl (cmp_lt line 1) (by kernel_rfl) (by kernel_rfl) ?_ ?_)))))))
  · intro h5
    replace h5 : line < 1 := by omega
    refine L_mv (L_skip (by kernel_rfl) (L_skip (by kernel_rfl) (L_skip (by kernel_rfl) (L_skip (by kernel_rfl) (L_pickT (by kernel_rfl) (L_mv (L_skip (by kernel_rfl) (L_skip (by kernel_rfl) (L_pickT (by kernel_rfl) (L_nil (thenQ_normal (W_true (by kernel_rfl) (W_seq (W_region (L_as (L_as (L_nil (thenQ_normal (W_ret (thenQ_ret ?_))))))))))))))))))))
    refine end_ret [.tmp 6, .tmp 7] [(.int .i64 0), (.int .i64 2)] rfl rfl ⟨by kernel_rfl, by kernel_rfl, trivial⟩ ?_
    have hE : ((0 : Int) = (placeF s line col).1) ∧ ((2 : Int) = (placeF s line col).2) := ⟨(by first | (rw [place_arg (by omega)]; done) | (rw [placeR_char (by assumption) (by assumption) (by omega)]; done) | (rw [placeR_end (by assumption) (by assumption) (by omega)]; done) | (rw [placeR_far (by assumption) (by omega) (by assumption) (by omega)]; done)), (by first | (rw [place_arg (by omega)]; done) | (rw [placeR_char (by assumption) (by assumption) (by omega)]; done) | (rw [placeR_end (by assumption) (by assumption) (by omega)]; done) | (rw [placeR_far (by assumption) (by omega) (by assumption) (by omega)]; done))⟩
    exact ⟨tup2 (congrArg (Value.int .i64) hE.1) (congrArg (Value.int .i64) hE.2), hb⟩
  · intro h6
    replace h6 : 1 ≤ line := by omega
    refine L_mv (L_want (by kernel_rfl) (L_mv (L_want (by kernel_rfl) (L_mv (L_want (by kernel_rfl) (L_len 23 75 (endsF s).length q1 rfl Tryd.underlying23 (r_q1.rd).len (by kernel_rfl) (L_want (by kernel_rfl) (L_cmp .i64 line (((endsF s).length : Nat) : Int) ((((endsF s).length : Nat) : Int) < line) rfl (cmp_gt line (((endsF s).length : Nat) : Int)) (by kernel_rfl) (by kernel_rfl) ?_ ?_))))))))
    · intro h7
      replace h7 : (((endsF s).length : Nat) : Int) < line := by omega
      refine L_pickF (by kernel_rfl) (L_mv (L_skip (by kernel_rfl) (L_skip (by kernel_rfl) (L_pickT (by kernel_rfl) (L_nil (thenQ_normal (W_true (by kernel_rfl) (W_seq (W_region (L_as (L_as (L_nil (thenQ_normal (W_ret (thenQ_ret ?_)))))))))))))))
      refine end_ret [.tmp 6, .tmp 7] [(.int .i64 0), (.int .i64 2)] rfl rfl ⟨by kernel_rfl, by kernel_rfl, trivial⟩ ?_
      have hE : ((0 : Int) = (placeF s line col).1) ∧ ((2 : Int) = (placeF s line col).2) := ⟨(by first | (rw [place_arg (by omega)]; done) | (rw [placeR_char (by assumption) (by assumption) (by omega)]; done) | (rw [placeR_end (by assumption) (by assumption) (by omega)]; done) | (rw [placeR_far (by assumption) (by omega) (by assumption) (by omega)]; done)), (by first | (rw [place_arg (by omega)]; done) | (rw [placeR_char (by assumption) (by assumption) (by omega)]; done) | (rw [placeR_end (by assumption) (by assumption) (by omega)]; done) | (rw [placeR_far (by assumption) (by omega) (by assumption) (by omega)]; done))⟩
      exact ⟨tup2 (congrArg (Value.int .i64) hE.1) (congrArg (Value.int .i64) hE.2), hb⟩
    · intro h8
      replace h8 : line ≤ (((endsF s).length : Nat) : Int) := by omega
      refine L_pickF (by kernel_rfl) (L_mv (L_want (by kernel_rfl) (L_mv (L_want (by kernel_rfl) (L_cmp .i64 col 1 (col < 1) rfl (cmp_lt col 1) (by kernel_rfl) (by kernel_rfl) ?_ ?_)))))
      · intro h9
        replace h9 : col < 1 := by omega
        refine L_pickF (by kernel_rfl) (L_nil (thenQ_normal (W_true (by kernel_rfl) (W_seq (W_region (L_as (L_as (L_nil (thenQ_normal (W_ret (thenQ_ret ?_)))))))))))
        refine end_ret [.tmp 6, .tmp 7] [(.int .i64 0), (.int .i64 2)] rfl rfl ⟨by kernel_rfl, by kernel_rfl, trivial⟩ ?_
        have hE : ((0 : Int) = (placeF s line col).1) ∧ ((2 : Int) = (placeF s line col).2) := ⟨(by first | (rw [place_arg (by omega)]; done) | (rw [placeR_char (by assumption) (by assumption) (by omega)]; done) | (rw [placeR_end (by assumption) (by assumption) (by omega)]; done) | (rw [placeR_far (by assumption) (by omega) (by assumption) (by omega)]; done)), (by first | (rw [place_arg (by omega)]; done) | (rw [placeR_char (by assumption) (by assumption) (by omega)]; done) | (rw [placeR_end (by assumption) (by assumption) (by omega)]; done) | (rw [placeR_far (by assumption) (by omega) (by assumption) (by omega)]; done))⟩
        exact ⟨tup2 (congrArg (Value.int .i64) hE.1) (congrArg (Value.int .i64) hE.2), hb⟩
      · intro h10
        replace h10 : 1 ≤ col := by omega
        refine L_pickF (by kernel_rfl) (L_nil (thenQ_normal (W_false (by kernel_rfl) (W_skip (thenQ_normal (W_seq (W_region (L_mv (L_mv (L_arith line 1 (line - 1) rfl (by kernel_rfl) (by kernel_rfl) (wrap_i64 _ (by simp only [arithZ]; omega) (by simp only [arithZ]; omega)) ?_))))))))))
        have hz := get_some (endsF s) ((line - 1).toNat) (by first | omega | (simp only [List.length_drop, List.length_take]; omega)); obtain ⟨x11, hx12⟩ := hz
        have hz := (r_q1.rd).at (k := 3) (fun _ => rfl) hx12
        obtain ⟨g13, off14, hl15, hc16⟩ := hz
        have hp_x11 := ends_ok hx12
        have hl_x11 : (List.drop x11.1 (List.take x11.2.1 s)).length = x11.2.1 - x11.1 := by simp only [List.length_drop, List.length_take]; omega
        refine L_ixaddrZ (k := .i64) q1 (line - 1) ((line - 1).toNat) _ g13 off14 (by omega) el23 hl15 (by first | omega | (simp only [List.length_drop, List.length_take]; omega)) (by kernel_rfl) (by kernel_rfl) (L_loadA g13 (off14 + ((line - 1).toNat) * 3) [(.int .i64 ((x11.1 : Nat) : Int)), (.int .i64 ((x11.2.1 : Nat) : Int)), (.int .i64 ((x11.2.2 : Nat) : Int))] (by kernel_rfl) (by kernel_rfl) (by kernel_rfl) hc16 (L_new (fun b => .pointer (some ⟨b, 0, none⟩)) (.cells [(.int .i64 0), (.int .i64 0), (.int .i64 0)].toArray 75 (0, 0)) (by kernel_rfl) (by kernel_rfl) ?_))
        intro b17 w18 hN19
        have g_x9 : w.heap.size ≤ b17 := by rw [hN19.num]; exact hs
        have nb_o_x9_r_q1 := r_q1.new_ne hN19
        replace hb := hb.trans (hN19.below.mono hs)
        replace hs := Nat.le_trans hs (hN19.below.size)
        replace r_q1 := r_q1.below hN19.below
        have o_x9 := hN19.here
        refine L_storeA b17 0 [(.int .i64 ((x11.1 : Nat) : Int)), (.int .i64 ((x11.2.1 : Nat) : Int)), (.int .i64 ((x11.2.2 : Nat) : Int))] [(.int .i64 0), (.int .i64 0), (.int .i64 0)] [(.int .i64 ((x11.1 : Nat) : Int)), (.int .i64 ((x11.2.1 : Nat) : Int)), (.int .i64 ((x11.2.2 : Nat) : Int))] 75 (by kernel_rfl) (by kernel_rfl) rfl (by kernel_rfl) o_x9 (by kernel_rfl) rfl ?_
        intro w20 hW21
        replace hb := hb.trans (hW21.below g_x9)
        replace hs := Nat.le_trans hs (Nat.le_of_eq hW21.size.symm)
        have n_r_q1 := r_q1.wrote hW21 nb_o_x9_r_q1
        replace r_q1 := n_r_q1; clear n_r_q1
        replace o_x9 := hW21.here
        refine L_nil (thenQ_normal (W_seq (W_region (L_mv (L_run (.pointer (some ⟨b17, 0, none⟩)) (by kernel_rfl) (by kernel_rfl) (L_load b17 0 (.int .i64 ((x11.1 : Nat) : Int)) (by kernel_rfl) (by kernel_rfl) (cell_obj o_x9 rfl) (L_run (.pointer (some ⟨b17, 1, none⟩)) (by kernel_rfl) (by kernel_rfl) (L_load b17 1 (.int .i64 ((x11.2.1 : Nat) : Int)) (by kernel_rfl) (by kernel_rfl) (cell_obj o_x9 rfl) (L_sslice s x11.1 x11.2.1 Tryd.underlying9 (by kernel_rfl) ⟨.i64, by kernel_rfl⟩ ⟨.i64, by kernel_rfl⟩ (by first | omega | (simp only [List.length_drop, List.length_take]; omega)) (by first | omega | (simp only [List.length_drop, List.length_take]; omega)) (L_call 39 [(S (List.drop x11.1 (List.take x11.2.1 s)))] (by kernel_rfl) (by kernel_rfl) (c_furrowref03_Chars (List.drop x11.1 (List.take x11.2.1 s)) _ (by first | omega | (simp only [List.length_drop, List.length_take]; omega))) ?_))))))))))
        rintro q22 w23 ⟨_, rfl, r_q22, hB24⟩
        replace r_q22 := r_q22.base hs
        replace hb := hb.trans (hB24.mono hs)
        replace hs := Nat.le_trans hs (hB24.size)
        replace o_x9 := obj_below o_x9 hB24
        replace r_q1 := r_q1.below hB24
        have := chF_len (List.drop x11.1 (List.take x11.2.1 s))
        have := chars_len (List.drop x11.1 (List.take x11.2.1 s))
        refine L_as (L_nil (thenQ_normal (W_seq (W_block (W_seq (W_region (L_mv (L_mv (L_len 76 79 (chF (List.drop x11.1 (List.take x11.2.1 s))).length q22 rfl Tryd.underlying76 (r_q22.rd).len (by kernel_rfl) (L_cmp .i64 col (((chF (List.drop x11.1 (List.take x11.2.1 s))).length : Nat) : Int) (col ≤ (((chF (List.drop x11.1 (List.take x11.2.1 s))).length : Nat) : Int)) rfl (cmp_le col (((chF (List.drop x11.1 (List.take x11.2.1 s))).length : Nat) : Int)) (by kernel_rfl) (by kernel_rfl) ?_ ?_))))))))))
        · intro h26
          replace h26 : col ≤ (((chF (List.drop x11.1 (List.take x11.2.1 s))).length : Nat) : Int) := by omega
          refine L_as (L_nil (thenQ_normal (W_true (by kernel_rfl) (W_seq (W_quiet (by kernel_rfl) (by kernel_rfl) (Lq_run (.pointer (some ⟨b17, 0, none⟩)) (fun _ => by kernel_rfl) (Lq_load b17 0 (.int .i64 ((x11.1 : Nat) : Int)) (by kernel_rfl) (fun _ => by kernel_rfl) (cell_obj o_x9 rfl) (Lq_mv (Lq_mv (Lq_arith col 1 (col - 1) rfl (by kernel_rfl) (by kernel_rfl) (wrap_i64 _ (by simp only [arithZ]; omega) (by simp only [arithZ]; omega)) ?_))))))))))
          have hz := get_some (chF (List.drop x11.1 (List.take x11.2.1 s))) ((col - 1).toNat) (by first | omega | (simp only [List.length_drop, List.length_take]; omega)); obtain ⟨x27, hx28⟩ := hz
          have hz := (r_q22.rd).at (k := 4) (fun _ => rfl) hx28
          obtain ⟨g29, off30, hl31, hc32⟩ := hz
          have hy_x27 := chF_le hx28
          simp only [List.length_drop, List.length_take] at hy_x27
          refine Lq_ixaddrZ (k := .i64) q22 (col - 1) ((col - 1).toNat) _ g29 off30 (by omega) el76 hl31 (by first | omega | (simp only [List.length_drop, List.length_take]; omega)) (by kernel_rfl) (by kernel_rfl) (Lq_run (.pointer (some ⟨g29, (off30 + ((col - 1).toNat) * 4), none⟩)) (fun _ => by kernel_rfl) (Lq_load g29 (off30 + ((col - 1).toNat) * 4) (.int .i64 ((x27.1 : Nat) : Int)) (by kernel_rfl) (fun _ => by kernel_rfl) (hc32 0 _ rfl) (Lq_addN x11.1 x27.1 (by omega) (by kernel_rfl) (by kernel_rfl) (Lq_as (Lq_as (Lq_nil ?_))))))
          intro w33 hB34
          replace hb := hb.trans (hB34.mono hs)
          replace hs := Nat.le_trans hs (hB34.size)
          replace o_x9 := obj_below o_x9 hB34
          replace r_q1 := r_q1.below hB34
          replace r_q22 := r_q22.below hB34
          refine thenQ_normal (W_ret (blkQ_ret (thenQ_ret ?_)))
          refine end_ret [.tmp 6, .tmp 7] [(.int .i64 (((x11.1 + x27.1) : Nat) : Int)), (.int .i64 0)] rfl rfl ⟨by kernel_rfl, by kernel_rfl, trivial⟩ ?_
          have hE : (((((x11.1 + x27.1) : Nat) : Int) : Int) = (placeF s line col).1) ∧ ((0 : Int) = (placeF s line col).2) := ⟨(by first | (rw [place_arg (by omega)]; done) | (rw [placeR_char (by assumption) (by assumption) (by omega)]; done) | (rw [placeR_end (by assumption) (by assumption) (by omega)]; done) | (rw [placeR_far (by assumption) (by omega) (by assumption) (by omega)]; done)), (by first | (rw [place_arg (by omega)]; done) | (rw [placeR_char (by assumption) (by assumption) (by omega)]; done) | (rw [placeR_end (by assumption) (by assumption) (by omega)]; done) | (rw [placeR_far (by assumption) (by omega) (by assumption) (by omega)]; done))⟩
          exact ⟨tup2 (congrArg (Value.int .i64) hE.1) (congrArg (Value.int .i64) hE.2), hb⟩
        · intro h35
          replace h35 : (((chF (List.drop x11.1 (List.take x11.2.1 s))).length : Nat) : Int) < col := by omega
          refine L_as (L_nil (thenQ_normal (W_false (by kernel_rfl) (W_seq (W_region (L_mv (L_mv (L_len 76 79 (chF (List.drop x11.1 (List.take x11.2.1 s))).length q22 rfl Tryd.underlying76 (r_q22.rd).len (by kernel_rfl) (L_addN ((chF (List.drop x11.1 (List.take x11.2.1 s))).length) 1 (by omega) (by kernel_rfl) (by kernel_rfl) (L_cmp .i64 col ((((chF (List.drop x11.1 (List.take x11.2.1 s))).length + 1) : Nat) : Int) (col = ((((chF (List.drop x11.1 (List.take x11.2.1 s))).length + 1) : Nat) : Int)) rfl (cmp_eq col ((((chF (List.drop x11.1 (List.take x11.2.1 s))).length + 1) : Nat) : Int)) (by kernel_rfl) (by kernel_rfl) ?_ ?_))))))))))
          · intro h36
            replace h36 : col = ((((chF (List.drop x11.1 (List.take x11.2.1 s))).length + 1) : Nat) : Int) := by omega
            refine L_as (L_nil (thenQ_normal (W_true (by kernel_rfl) (W_seq (W_region (L_run (.pointer (some ⟨b17, 1, none⟩)) (by kernel_rfl) (by kernel_rfl) (L_load b17 1 (.int .i64 ((x11.2.1 : Nat) : Int)) (by kernel_rfl) (by kernel_rfl) (cell_obj o_x9 rfl) (L_as (L_as (L_nil (thenQ_normal (W_ret (blkQ_ret (thenQ_ret ?_))))))))))))))
            refine end_ret [.tmp 6, .tmp 7] [(.int .i64 ((x11.2.1 : Nat) : Int)), (.int .i64 0)] rfl rfl ⟨by kernel_rfl, by kernel_rfl, trivial⟩ ?_
            have hE : ((((x11.2.1 : Nat) : Int) : Int) = (placeF s line col).1) ∧ ((0 : Int) = (placeF s line col).2) := ⟨(by first | (rw [place_arg (by omega)]; done) | (rw [placeR_char (by assumption) (by assumption) (by omega)]; done) | (rw [placeR_end (by assumption) (by assumption) (by omega)]; done) | (rw [placeR_far (by assumption) (by omega) (by assumption) (by omega)]; done)), (by first | (rw [place_arg (by omega)]; done) | (rw [placeR_char (by assumption) (by assumption) (by omega)]; done) | (rw [placeR_end (by assumption) (by assumption) (by omega)]; done) | (rw [placeR_far (by assumption) (by omega) (by assumption) (by omega)]; done))⟩
            exact ⟨tup2 (congrArg (Value.int .i64) hE.1) (congrArg (Value.int .i64) hE.2), hb⟩
          · intro h37
            replace h37 : col ≠ ((((chF (List.drop x11.1 (List.take x11.2.1 s))).length + 1) : Nat) : Int) := by omega
            refine L_as (L_nil (thenQ_normal (W_false (by kernel_rfl) (W_skip (blkQ_normal (thenQ_normal (W_seq (W_region (L_as (L_as (L_nil (thenQ_normal (W_ret ?_)))))))))))))
            refine end_ret [.tmp 6, .tmp 7] [(.int .i64 0), (.int .i64 2)] rfl rfl ⟨by kernel_rfl, by kernel_rfl, trivial⟩ ?_
            have hE : ((0 : Int) = (placeF s line col).1) ∧ ((2 : Int) = (placeF s line col).2) := ⟨(by first | (rw [place_arg (by omega)]; done) | (rw [placeR_char (by assumption) (by assumption) (by omega)]; done) | (rw [placeR_end (by assumption) (by assumption) (by omega)]; done) | (rw [placeR_far (by assumption) (by omega) (by assumption) (by omega)]; done)), (by first | (rw [place_arg (by omega)]; done) | (rw [placeR_char (by assumption) (by assumption) (by omega)]; done) | (rw [placeR_end (by assumption) (by assumption) (by omega)]; done) | (rw [placeR_far (by assumption) (by omega) (by assumption) (by omega)]; done))⟩
            exact ⟨tup2 (congrArg (Value.int .i64) hE.1) (congrArg (Value.int .i64) hE.2), hb⟩

set_option maxHeartbeats 4000000 in
set_option maxRecDepth 100000 in
theorem c_lines_Place (s : List UInt8) (line : Int) (col : Int) (w : World) (hs : s.length ≤ 1073741824) :
    Calls Tryd.prog 35 #[(S s), (.int .i64 line), (.int .i64 col)] w (Ret fun v w' => v = (.tuple #[(.int .i64 ((placeF s line col).1)), (.int .i64 ((placeF s line col).2))]) ∧ Below w.heap.size w w') := by
  refine enter (args := [(S s), (.int .i64 line), (.int .i64 col)]) Tryd.func35 rfl (by kernel_rfl : _ = 55) (by kernel_rfl) ?_
  have hb := Below.refl w.heap.size w
  have hs : w.heap.size ≤ w.heap.size := Nat.le_refl _
  refine W_seq (W_region (L_as (L_as (L_nil (thenQ_normal (W_seq (W_region (L_mv (L_call 44 [(S s)] (by kernel_rfl) (by kernel_rfl) (c_lines_pieces s _ (by first | omega | (simp only [List.length_drop, List.length_take]; omega))) ?_)))))))))
  rintro q1 w2 ⟨_, rfl, r_q1, hB3⟩
  replace r_q1 := r_q1.base hs
  replace hb := hb.trans (hB3.mono hs)
  replace hs := Nat.le_trans hs (hB3.size)
  have := pcsI_len s
  refine L_as (L_nil (thenQ_normal (W_seq (W_seq (W_region (L_mv (L_cmp .i64 line 1 (line < 1) rfl (cmp_lt line 1) (by kernel_rfl) (by kernel_rfl) ?_ ?_)))))))
  · intro h5
    replace h5 : line < 1 := by omega
    refine L_mv (L_skip (by kernel_rfl) (L_skip (by kernel_rfl) (L_skip (by kernel_rfl) (L_skip (by kernel_rfl) (L_pickT (by kernel_rfl) (L_mv (L_skip (by kernel_rfl) (L_skip (by kernel_rfl) (L_pickT (by kernel_rfl) (L_nil (thenQ_normal (W_true (by kernel_rfl) (W_seq (W_region (L_as (L_as (L_nil (thenQ_normal (W_ret (thenQ_ret ?_))))))))))))))))))))
    refine end_ret [.tmp 6, .tmp 7] [(.int .i64 0), (.int .i64 2)] rfl rfl ⟨by kernel_rfl, by kernel_rfl, trivial⟩ ?_
    have hE : ((0 : Int) = (placeF s line col).1) ∧ ((2 : Int) = (placeF s line col).2) := ⟨(by first | (rw [placeI_arg (by omega)]; done) | (rw [placeI_char (n := cn - 1) (by omega) (by assumption) j2 lt_it37 (by omega)]; done) | (rw [placeI_end (n := cn - 1) (by omega) (by assumption) j2 j3 ge_it37 (by omega)]; done) | (rw [placeI_far (n := cn - 1) (by omega) (by assumption) j2 j3 ge_it37 (by omega) (by omega)]; done)), (by first | (rw [placeI_arg (by omega)]; done) | (rw [placeI_char (n := cn - 1) (by omega) (by assumption) j2 lt_it37 (by omega)]; done) | (rw [placeI_end (n := cn - 1) (by omega) (by assumption) j2 j3 ge_it37 (by omega)]; done) | (rw [placeI_far (n := cn - 1) (by omega) (by assumption) j2 j3 ge_it37 (by omega) (by omega)]; done))⟩
    exact ⟨tup2 (congrArg (Value.int .i64) hE.1) (congrArg (Value.int .i64) hE.2), hb⟩
  · intro h6
    replace h6 : 1 ≤ line := by omega
    refine L_mv (L_want (by kernel_rfl) (L_mv (L_want (by kernel_rfl) (L_mv (L_want (by kernel_rfl) (L_len 86 89 (pcsI s).length q1 rfl Tryd.underlying86 (r_q1.rd).len (by kernel_rfl) (L_want (by kernel_rfl) (L_cmp .i64 line (((pcsI s).length : Nat) : Int) ((((pcsI s).length : Nat) : Int) < line) rfl (cmp_gt line (((pcsI s).length : Nat) : Int)) (by kernel_rfl) (by kernel_rfl) ?_ ?_))))))))
    · intro h7
      replace h7 : (((pcsI s).length : Nat) : Int) < line := by omega
      refine L_pickF (by kernel_rfl) (L_mv (L_skip (by kernel_rfl) (L_skip (by kernel_rfl) (L_pickT (by kernel_rfl) (L_nil (thenQ_normal (W_true (by kernel_rfl) (W_seq (W_region (L_as (L_as (L_nil (thenQ_normal (W_ret (thenQ_ret ?_)))))))))))))))
      refine end_ret [.tmp 6, .tmp 7] [(.int .i64 0), (.int .i64 2)] rfl rfl ⟨by kernel_rfl, by kernel_rfl, trivial⟩ ?_
      have hE : ((0 : Int) = (placeF s line col).1) ∧ ((2 : Int) = (placeF s line col).2) := ⟨(by first | (rw [placeI_arg (by omega)]; done) | (rw [placeI_char (n := cn - 1) (by omega) (by assumption) j2 lt_it37 (by omega)]; done) | (rw [placeI_end (n := cn - 1) (by omega) (by assumption) j2 j3 ge_it37 (by omega)]; done) | (rw [placeI_far (n := cn - 1) (by omega) (by assumption) j2 j3 ge_it37 (by omega) (by omega)]; done)), (by first | (rw [placeI_arg (by omega)]; done) | (rw [placeI_char (n := cn - 1) (by omega) (by assumption) j2 lt_it37 (by omega)]; done) | (rw [placeI_end (n := cn - 1) (by omega) (by assumption) j2 j3 ge_it37 (by omega)]; done) | (rw [placeI_far (n := cn - 1) (by omega) (by assumption) j2 j3 ge_it37 (by omega) (by omega)]; done))⟩
      exact ⟨tup2 (congrArg (Value.int .i64) hE.1) (congrArg (Value.int .i64) hE.2), hb⟩
    · intro h8
      replace h8 : line ≤ (((pcsI s).length : Nat) : Int) := by omega
      refine L_pickF (by kernel_rfl) (L_mv (L_want (by kernel_rfl) (L_mv (L_want (by kernel_rfl) (L_cmp .i64 col 1 (col < 1) rfl (cmp_lt col 1) (by kernel_rfl) (by kernel_rfl) ?_ ?_)))))
      · intro h9
        replace h9 : col < 1 := by omega
        refine L_pickF (by kernel_rfl) (L_nil (thenQ_normal (W_true (by kernel_rfl) (W_seq (W_region (L_as (L_as (L_nil (thenQ_normal (W_ret (thenQ_ret ?_)))))))))))
        refine end_ret [.tmp 6, .tmp 7] [(.int .i64 0), (.int .i64 2)] rfl rfl ⟨by kernel_rfl, by kernel_rfl, trivial⟩ ?_
        have hE : ((0 : Int) = (placeF s line col).1) ∧ ((2 : Int) = (placeF s line col).2) := ⟨(by first | (rw [placeI_arg (by omega)]; done) | (rw [placeI_char (n := cn - 1) (by omega) (by assumption) j2 lt_it37 (by omega)]; done) | (rw [placeI_end (n := cn - 1) (by omega) (by assumption) j2 j3 ge_it37 (by omega)]; done) | (rw [placeI_far (n := cn - 1) (by omega) (by assumption) j2 j3 ge_it37 (by omega) (by omega)]; done)), (by first | (rw [placeI_arg (by omega)]; done) | (rw [placeI_char (n := cn - 1) (by omega) (by assumption) j2 lt_it37 (by omega)]; done) | (rw [placeI_end (n := cn - 1) (by omega) (by assumption) j2 j3 ge_it37 (by omega)]; done) | (rw [placeI_far (n := cn - 1) (by omega) (by assumption) j2 j3 ge_it37 (by omega) (by omega)]; done))⟩
        exact ⟨tup2 (congrArg (Value.int .i64) hE.1) (congrArg (Value.int .i64) hE.2), hb⟩
      · intro h10
        replace h10 : 1 ≤ col := by omega
        refine L_pickF (by kernel_rfl) (L_nil (thenQ_normal (W_false (by kernel_rfl) (W_skip (thenQ_normal (W_seq (W_region (L_mv (L_mv (L_arith line 1 (line - 1) rfl (by kernel_rfl) (by kernel_rfl) (wrap_i64 _ (by simp only [arithZ]; omega) (by simp only [arithZ]; omega)) ?_))))))))))
        have hz := get_some (pcsI s) ((line - 1).toNat) (by first | omega | (simp only [List.length_drop, List.length_take]; omega)); obtain ⟨x11, hx12⟩ := hz
        have hz := (r_q1.rd).at (k := 3) (fun _ => rfl) hx12
        obtain ⟨g13, off14, hl15, hc16⟩ := hz
        have hpo_x11 := pcsI_ok hx12
        obtain ⟨po1_x11, po2_x11, po3_x11, po4_x11⟩ := hpo_x11
        have hl_x11 : (List.drop x11.1.toNat (List.take x11.2.1.toNat s)).length = (x11.2.1 - x11.1).toNat := by simp only [List.length_drop, List.length_take]; omega
        refine L_ixaddrZ (k := .i64) q1 (line - 1) ((line - 1).toNat) _ g13 off14 (by omega) el86 hl15 (by first | omega | (simp only [List.length_drop, List.length_take]; omega)) (by kernel_rfl) (by kernel_rfl) (L_loadA g13 (off14 + ((line - 1).toNat) * 3) [(.int .i64 x11.1), (.int .i64 x11.2.1), (.int .i64 x11.2.2)] (by kernel_rfl) (by kernel_rfl) (by kernel_rfl) hc16 (L_new (fun b => .pointer (some ⟨b, 0, none⟩)) (.cells [(.int .i64 0), (.int .i64 0), (.int .i64 0)].toArray 89 (0, 0)) (by kernel_rfl) (by kernel_rfl) ?_))
        intro b17 w18 hN19
        have g_x9 : w.heap.size ≤ b17 := by rw [hN19.num]; exact hs
        have nb_o_x9_r_q1 := r_q1.new_ne hN19
        replace hb := hb.trans (hN19.below.mono hs)
        replace hs := Nat.le_trans hs (hN19.below.size)
        replace r_q1 := r_q1.below hN19.below
        have o_x9 := hN19.here
        refine L_storeA b17 0 [(.int .i64 x11.1), (.int .i64 x11.2.1), (.int .i64 x11.2.2)] [(.int .i64 0), (.int .i64 0), (.int .i64 0)] [(.int .i64 x11.1), (.int .i64 x11.2.1), (.int .i64 x11.2.2)] 89 (by kernel_rfl) (by kernel_rfl) rfl (by kernel_rfl) o_x9 (by kernel_rfl) rfl ?_
        intro w20 hW21
        replace hb := hb.trans (hW21.below g_x9)
        replace hs := Nat.le_trans hs (Nat.le_of_eq hW21.size.symm)
        have n_r_q1 := r_q1.wrote hW21 nb_o_x9_r_q1
        replace r_q1 := n_r_q1; clear n_r_q1
        replace o_x9 := hW21.here
        refine L_nil (thenQ_normal (W_seq (W_region (L_as (L_nil (thenQ_normal (W_seq (W_seq (W_region (L_mv (L_run (.pointer (some ⟨b17, 0, none⟩)) (by kernel_rfl) (by kernel_rfl) (L_load b17 0 (.int .i64 x11.1) (by kernel_rfl) (by kernel_rfl) (cell_obj o_x9 rfl) (L_run (.pointer (some ⟨b17, 1, none⟩)) (by kernel_rfl) (by kernel_rfl) (L_load b17 1 (.int .i64 x11.2.1) (by kernel_rfl) (by kernel_rfl) (cell_obj o_x9 rfl) (L_sslice s ((x11.1).toNat) ((x11.2.1).toNat) Tryd.underlying9 (by kernel_rfl) (toNat_val x11.1 .i64 (by kernel_rfl) (by omega)) (toNat_val x11.2.1 .i64 (by kernel_rfl) (by omega)) (by first | omega | (simp only [List.length_drop, List.length_take]; omega)) (by first | omega | (simp only [List.length_drop, List.length_take]; omega)) (L_range (List.drop ((x11.1).toNat) (List.take ((x11.2.1).toNat) s)) Tryd.underlying9 (by kernel_rfl) ?_))))))))))))))))
        intro b22 w23 hN24
        have ne_x9_it37 : b17 ≠ b22 := by have := (obj_lt o_x9); have := hN24.num; omega
        have ne_it37_x9 := ne_x9_it37.symm
        have g_it37 : w.heap.size ≤ b22 := by rw [hN24.num]; exact hs
        replace hb := hb.trans (hN24.below.mono hs)
        replace hs := Nat.le_trans hs (hN24.below.size)
        replace o_x9 := obj_below o_x9 hN24.below
        replace r_q1 := r_q1.below hN24.below
        have o_it37 := hN24.here
        refine L_nil (thenQ_normal (W_block ?_))
        refine W_loop (fun m s0 w0 => ∃ (pos : Nat) (cn : Nat), (m = (List.drop ((x11.1).toNat) (List.take ((x11.2.1).toNat) s)).length - pos) ∧ (s0.ds = []) ∧ (s0.f 2 = (.int .i64 col)) ∧ (s0.f 9 = (.pointer (some ⟨b17, 0, none⟩))) ∧ (s0.f 37 = (.pointer (some ⟨b22, 0, none⟩))) ∧ (s0.f 10 = (.int .i64 ((cn : Nat) : Int))) ∧ (Row w0 w.heap.size 89 3 encPc q1 (pcsI s)) ∧ (w0.heap[b17]? = some (.cells [(.int .i64 x11.1), (.int .i64 x11.2.1), (.int .i64 x11.2.2)].toArray 89 (0, 0))) ∧ (w0.heap[b22]? = some (.stringIter ⟨((List.drop ((x11.1).toNat) (List.take ((x11.2.1).toNat) s))).toArray⟩ pos)) ∧ (Below w.heap.size w w0) ∧ (w.heap.size ≤ w0.heap.size) ∧ (pos ≤ (List.drop ((x11.1).toNat) (List.take ((x11.2.1).toNat) s)).length) ∧ (1 ≤ cn) ∧ (charsFrom (List.drop ((x11.1).toNat) (List.take ((x11.2.1).toNat) s)) pos = (charsFrom (List.drop ((x11.1).toNat) (List.take ((x11.2.1).toNat) s)) 0).drop (cn - 1)) ∧ (cn - 1 ≤ (charsFrom (List.drop ((x11.1).toNat) (List.take ((x11.2.1).toNat) s)) 0).length) ∧ ((cn : Int) ≤ col) ∧ (cn ≤ pos + 1)) _ ⟨0, 1, rfl, by kernel_rfl, by kernel_rfl, by kernel_rfl, by kernel_rfl, by kernel_rfl, r_q1, o_x9, o_it37, hb, hs, (Nat.zero_le _), (Nat.le_refl _), rfl, (Nat.zero_le _), (by omega), (Nat.le_refl _)⟩ ?_
        rintro m25 s26 w27 ⟨pos, cn, hm, hds, f_2, f_9, f_37, f_10, r_q1, o_x9, o_it37, hb, hs, i1, j1, j2, j3, j4, j5⟩
        refine W_set 2 _ f_2 (W_set 9 _ f_9 (W_set 37 _ f_37 (W_set 10 _ f_10 ?_)))
        clear f_2 f_9 f_37 f_10
        have hcl := chars_len (List.drop ((x11.1).toNat) (List.take ((x11.2.1).toNat) s))
        refine W_seq (W_region ?_)
        rcases Nat.lt_or_ge pos ((List.drop ((x11.1).toNat) (List.take ((x11.2.1).toNat) s))).length with lt_it37 | ge_it37
        · refine L_next (List.drop ((x11.1).toNat) (List.take ((x11.2.1).toNat) s)) b22 pos (by kernel_rfl) o_it37 lt_it37 ?_
          intro c_it37 w28 ch_it37 hW29
          replace hb := hb.trans (hW29.below g_it37)
          replace hs := Nat.le_trans hs (Nat.le_of_eq hW29.size.symm)
          have n_o_x9 := obj_wrote o_x9 hW29 (obj_ne o_x9 o_it37 (by simp))
          have n_r_q1 := r_q1.wrote hW29 (r_q1.ne o_it37 (by simp))
          replace o_x9 := n_o_x9; clear n_o_x9
          replace r_q1 := n_r_q1; clear n_r_q1
          replace o_it37 := hW29.here
          have := dec_pos (List.drop ((x11.1).toNat) (List.take ((x11.2.1).toNat) s)) pos; have := dec_fits (List.drop ((x11.1).toNat) (List.take ((x11.2.1).toNat) s)) pos lt_it37; have := dec_le (List.drop ((x11.1).toNat) (List.take ((x11.2.1).toNat) s)) pos
          have c_it37_0 : 0 ≤ c_it37 := by omega
          have c_it37_1 : c_it37 ≤ 2147483647 := by omega
          refine L_run (.bool true) (by kernel_rfl) (by kernel_rfl) (L_nil (thenQ_normal (W_seq (W_true (by kernel_rfl) (W_skip (thenQ_normal (W_block (W_seq (W_region (L_run (.int .i64 ((pos : Nat) : Int)) (by kernel_rfl) (by kernel_rfl) (L_as (L_nil (thenQ_normal (W_seq (W_seq (W_region (L_mv (L_mv (L_cmp .i64 ((cn : Nat) : Int) col (((cn : Nat) : Int) = col) rfl (cmp_eq ((cn : Nat) : Int) col) (by kernel_rfl) (by kernel_rfl) ?_ ?_)))))))))))))))))))
          · intro h30
            replace h30 : ((cn : Nat) : Int) = col := by omega
            refine L_nil (thenQ_normal (W_true (by kernel_rfl) (W_seq (W_region (L_run (.pointer (some ⟨b17, 0, none⟩)) (by kernel_rfl) (by kernel_rfl) (L_load b17 0 (.int .i64 x11.1) (by kernel_rfl) (by kernel_rfl) (cell_obj o_x9 rfl) (L_mv (L_arith x11.1 ((pos : Nat) : Int) (x11.1 + ((pos : Nat) : Int)) rfl (by kernel_rfl) (by kernel_rfl) (wrap_i64 _ (by simp only [arithZ]; omega) (by simp only [arithZ]; omega)) (L_as (L_as (L_nil (thenQ_normal (W_ret (thenQ_ret (blkQ_ret (thenQ_ret (blkQ_ret (thenQ_ret ?_))))))))))))))))))
            refine end_ret [.tmp 6, .tmp 7] [(.int .i64 (x11.1 + ((pos : Nat) : Int))), (.int .i64 0)] rfl hds ⟨by kernel_rfl, by kernel_rfl, trivial⟩ ?_
            have hE : (((x11.1 + ((pos : Nat) : Int)) : Int) = (placeF s line col).1) ∧ ((0 : Int) = (placeF s line col).2) := ⟨(by first | (rw [placeI_arg (by omega)]; done) | (rw [placeI_char (n := cn - 1) (by omega) (by assumption) j2 lt_it37 (by omega)]; done) | (rw [placeI_end (n := cn - 1) (by omega) (by assumption) j2 j3 ge_it37 (by omega)]; done) | (rw [placeI_far (n := cn - 1) (by omega) (by assumption) j2 j3 ge_it37 (by omega) (by omega)]; done)), (by first | (rw [placeI_arg (by omega)]; done) | (rw [placeI_char (n := cn - 1) (by omega) (by assumption) j2 lt_it37 (by omega)]; done) | (rw [placeI_end (n := cn - 1) (by omega) (by assumption) j2 j3 ge_it37 (by omega)]; done) | (rw [placeI_far (n := cn - 1) (by omega) (by assumption) j2 j3 ge_it37 (by omega) (by omega)]; done))⟩
            exact ⟨tup2 (congrArg (Value.int .i64) hE.1) (congrArg (Value.int .i64) hE.2), hb⟩
          · intro h31
            replace h31 : ((cn : Nat) : Int) ≠ col := by omega
            refine L_nil (thenQ_normal (W_false (by kernel_rfl) (W_skip (thenQ_normal (W_region (L_mv (L_addN cn 1 (by omega) (by kernel_rfl) (by kernel_rfl) (L_as (L_nil (blkQ_normal ?_))))))))))
            refine thenQ_normal ⟨_, ?_, (pos + (dec (List.drop ((x11.1).toNat) (List.take ((x11.2.1).toNat) s)) pos).2), (cn + 1), rfl, hds, by kernel_rfl, by kernel_rfl, by kernel_rfl, by kernel_rfl, r_q1, o_x9, o_it37, hb, hs, ?_, ?_, ?_, ?_, ?_, ?_⟩
            · omega
            · omega
            · omega
            · rw [show cn + 1 - 1 = cn - 1 + 1 by omega]; exact (chars_drop lt_it37 j2).2
            · have := (List.getElem?_eq_some_iff.1 (chars_drop lt_it37 j2).1).1; omega
            · omega
            · omega
        · refine L_nextEnd (List.drop ((x11.1).toNat) (List.take ((x11.2.1).toNat) s)) b22 pos (by kernel_rfl) o_it37 ge_it37 (L_run (.bool false) (by kernel_rfl) (by kernel_rfl) (L_nil (thenQ_normal (W_seq (W_false (by kernel_rfl) (W_exit (thenQ_exit (thenQ_exit (blkQ_exit (thenQ_normal (W_seq (W_seq (W_region (L_mv (L_mv (L_cmp .i64 ((cn : Nat) : Int) col (((cn : Nat) : Int) = col) rfl (cmp_eq ((cn : Nat) : Int) col) (by kernel_rfl) (by kernel_rfl) ?_ ?_))))))))))))))))
          · intro h32
            replace h32 : ((cn : Nat) : Int) = col := by omega
            refine L_nil (thenQ_normal (W_true (by kernel_rfl) (W_seq (W_region (L_run (.pointer (some ⟨b17, 1, none⟩)) (by kernel_rfl) (by kernel_rfl) (L_load b17 1 (.int .i64 x11.2.1) (by kernel_rfl) (by kernel_rfl) (cell_obj o_x9 rfl) (L_as (L_as (L_nil (thenQ_normal (W_ret (thenQ_ret ?_))))))))))))
            refine end_ret [.tmp 6, .tmp 7] [(.int .i64 x11.2.1), (.int .i64 0)] rfl hds ⟨by kernel_rfl, by kernel_rfl, trivial⟩ ?_
            have hE : ((x11.2.1 : Int) = (placeF s line col).1) ∧ ((0 : Int) = (placeF s line col).2) := ⟨(by first | (rw [placeI_arg (by omega)]; done) | (rw [placeI_char (n := cn - 1) (by omega) (by assumption) j2 lt_it37 (by omega)]; done) | (rw [placeI_end (n := cn - 1) (by omega) (by assumption) j2 j3 ge_it37 (by omega)]; done) | (rw [placeI_far (n := cn - 1) (by omega) (by assumption) j2 j3 ge_it37 (by omega) (by omega)]; done)), (by first | (rw [placeI_arg (by omega)]; done) | (rw [placeI_char (n := cn - 1) (by omega) (by assumption) j2 lt_it37 (by omega)]; done) | (rw [placeI_end (n := cn - 1) (by omega) (by assumption) j2 j3 ge_it37 (by omega)]; done) | (rw [placeI_far (n := cn - 1) (by omega) (by assumption) j2 j3 ge_it37 (by omega) (by omega)]; done))⟩
            exact ⟨tup2 (congrArg (Value.int .i64) hE.1) (congrArg (Value.int .i64) hE.2), hb⟩
          · intro h33
            replace h33 : ((cn : Nat) : Int) ≠ col := by omega
            refine L_nil (thenQ_normal (W_false (by kernel_rfl) (W_skip (thenQ_normal (W_seq (W_region (L_as (L_as (L_nil (thenQ_normal (W_ret ?_)))))))))))
            refine end_ret [.tmp 6, .tmp 7] [(.int .i64 0), (.int .i64 2)] rfl hds ⟨by kernel_rfl, by kernel_rfl, trivial⟩ ?_
            have hE : ((0 : Int) = (placeF s line col).1) ∧ ((2 : Int) = (placeF s line col).2) := ⟨(by first | (rw [placeI_arg (by omega)]; done) | (rw [placeI_char (n := cn - 1) (by omega) (by assumption) j2 lt_it37 (by omega)]; done) | (rw [placeI_end (n := cn - 1) (by omega) (by assumption) j2 j3 ge_it37 (by omega)]; done) | (rw [placeI_far (n := cn - 1) (by omega) (by assumption) j2 j3 ge_it37 (by omega) (by omega)]; done)), (by first | (rw [placeI_arg (by omega)]; done) | (rw [placeI_char (n := cn - 1) (by omega) (by assumption) j2 lt_it37 (by omega)]; done) | (rw [placeI_end (n := cn - 1) (by omega) (by assumption) j2 j3 ge_it37 (by omega)]; done) | (rw [placeI_far (n := cn - 1) (by omega) (by assumption) j2 j3 ge_it37 (by omega) (by omega)]; done))⟩
            exact ⟨tup2 (congrArg (Value.int .i64) hE.1) (congrArg (Value.int .i64) hE.2), hb⟩

set_option maxHeartbeats 4000000 in
set_option maxRecDepth 100000 in
theorem c_furrowlaw03_LinesPlaces (s : List UInt8) (line : Int) (col : Int) (w : World) (hty : w.cell? ⟨0, 0, none⟩ = some (.iface 116 (.agg #[.pointer (some ⟨4, 56, none⟩)]))) (hs : s.length ≤ 1073741824) :
    Calls Tryd.prog 11 #[(S s), (.int .i64 line), (.int .i64 col)] w (Ret fun v w' => v = (.bool true) ∧ Below w.heap.size w w') := by
  refine enter (args := [(S s), (.int .i64 line), (.int .i64 col)]) Tryd.func11 rfl (by kernel_rfl : _ = 36) (by kernel_rfl) ?_
  have hb := Below.refl w.heap.size w
  have hs : w.heap.size ≤ w.heap.size := Nat.le_refl _
  refine W_seq (W_region (L_as (L_nil (thenQ_normal (W_seq (W_region (L_mv (L_mv (L_mv (L_call 35 [(S s), (.int .i64 line), (.int .i64 col)] (by kernel_rfl) (by kernel_rfl) (c_lines_Place s line col _ (by omega)) ?_))))))))))
  rintro _ w1 ⟨rfl, hB2⟩
  replace hb := hb.trans (hB2.mono hs)
  replace hs := Nat.le_trans hs (hB2.size)
  refine L_mv (L_run (.int .i64 ((placeF s line col).1)) (by kernel_rfl) (by kernel_rfl) (L_run (.int .i64 ((placeF s line col).2)) (by kernel_rfl) (by kernel_rfl) (L_as (L_as (L_nil (thenQ_normal (W_seq (W_region (L_mv (L_mv (L_mv (L_call 36 [(S s), (.int .i64 line), (.int .i64 col)] (by kernel_rfl) (by kernel_rfl) (c_furrowref03_Place s line col _ (by omega)) ?_))))))))))))
  rintro _ w4 ⟨rfl, hB5⟩
  replace hb := hb.trans (hB5.mono hs)
  replace hs := Nat.le_trans hs (hB5.size)
  refine L_mv (L_run (.int .i64 ((placeF s line col).1)) (by kernel_rfl) (by kernel_rfl) (L_run (.int .i64 ((placeF s line col).2)) (by kernel_rfl) (by kernel_rfl) (L_as (L_as (L_nil (thenQ_normal (W_seq (W_region (L_mv (L_mv (L_cmp .i64 ((placeF s line col).1) ((placeF s line col).1) ((placeF s line col).1 = (placeF s line col).1) rfl (cmp_eq ((placeF s line col).1) ((placeF s line col).1)) (by kernel_rfl) (by kernel_rfl) ?_ ?_)))))))))))
  · intro h7
    replace h7 : (placeF s line col).1 = (placeF s line col).1 := by omega
    refine L_mv (L_want (by kernel_rfl) (L_mv (L_want (by kernel_rfl) (L_mv (L_want (by kernel_rfl) (L_cmp .i64 ((placeF s line col).2) ((placeF s line col).2) ((placeF s line col).2 = (placeF s line col).2) rfl (cmp_eq ((placeF s line col).2) ((placeF s line col).2)) (by kernel_rfl) (by kernel_rfl) ?_ ?_))))))
    · intro h8
      replace h8 : (placeF s line col).2 = (placeF s line col).2 := by omega
      refine L_pickT (by kernel_rfl) (L_mv (L_want (by kernel_rfl) (L_call 16 [] (by kernel_rfl) (by kernel_rfl) (c_furrowlaw03_awake  _ (gcell_below hty hb)) ?_)))
      rintro _ w9 ⟨rfl, hB10⟩
      replace hb := hb.trans (hB10.mono hs)
      replace hs := Nat.le_trans hs (hB10.size)
      refine L_pickT (by kernel_rfl) (L_as (L_nil (thenQ_normal (W_ret ?_))))
      refine end_ret [.tmp 6] [(.bool true)] rfl rfl ⟨by kernel_rfl, trivial⟩ ?_
      have e0 : true = true := by rfl
      exact ⟨congrArg Value.bool e0, hb⟩
    · intro h12
      replace h12 : (placeF s line col).2 ≠ (placeF s line col).2 := by omega
      exact (h12 rfl).elim
  · intro h13
    replace h13 : (placeF s line col).1 ≠ (placeF s line col).1 := by omega
    exact (h13 rfl).elim

end Go.Proofs.YtapndpldphflcaaDoor
