/- Walks, written by my program walk.py out of the specification mtwo.py: each theorem says what one function returns and that it leaves memory as it was. -/
import Derived.Test.YtjdcmeoiommglaaDoorPTwP
import Derived.Test.YtjdcmeoiommglaaDoorWllines
import Derived.Test.YtjdcmeoiommglaaDoorWlscan
import Derived.Test.YtjdcmeoiommglaaDoorWlread
import Derived.Test.YtjdcmeoiommglaaDoorWlref
import Derived.Test.YtjdcmeoiommglaaDoorWmcor
import Derived.Test.YtjdcmeoiommglaaDoorWmmir
import Derived.Test.YtjdcmeoiommglaaDoorWmtpr
import Derived.Test.YtjdcmeoiommglaaDoorWmlaw
import Derived.Test.YtjdcmeoiommglaaDoorFKab
import Derived.Test.YtjdcmeoiommglaaDoorProg
import Derived.Tactics2
namespace Go.Proofs.YtjdcmeoiommglaaDoor
open Go Go.RowKit Go.FK
set_option linter.unusedVariables false
set_option linter.unusedSimpArgs false


set_option maxHeartbeats 4000000 in
set_option maxRecDepth 100000 in
theorem c_furrowlaw09_MirrorsTwice (v_l : Value) (l : List (Mir)) (s : List UInt8) (r : Int) (w : World) (p_l : Rd w encMir v_l l) (hty : w.cell? ⟨0, 0, none⟩ = some (.iface 115 (.agg #[.pointer (some ⟨4, 55, none⟩)]))) (hl : l.length ≤ 1048576) (hs : s.length ≤ 1048576) :
    Calls Tryd.prog 7 #[v_l, (S s), (.int .i32 r)] w (Ret fun v w' => v = (.bool true) ∧ Below w.heap.size w w') := by
  refine enter (args := [v_l, (S s), (.int .i32 r)]) Tryd.func7 rfl (by kernel_rfl : _ = 89) (by kernel_rfl) ?_
  have hb := Below.refl w.heap.size w
  have hs : w.heap.size ≤ w.heap.size := Nat.le_refl _
  have in_p_l := p_l
  have htl := mtext_len l s
  refine W_seq (W_region (L_as (L_nil (thenQ_normal (W_seq (W_seq (W_region (L_call 14 [] (by kernel_rfl) (by kernel_rfl) (c_furrowlaw09_awake  _ (gcell_below hty hb)) ?_))))))))
  rintro _ w1 ⟨rfl, hB2⟩
  replace hb := hb.trans (hB2.mono hs)
  replace hs := Nat.le_trans hs (hB2.size)
  replace p_l := p_l.below hB2
  refine L_not true (by kernel_rfl) (L_nil (thenQ_normal (W_false (by kernel_rfl) (W_skip (thenQ_normal (W_seq (W_seq (W_region (L_mv (L_call 22 [v_l] (by kernel_rfl) (by kernel_rfl) (c_mirrors_Check v_l l _ p_l (by omega)) ?_))))))))))
  rintro _ w4 ⟨rfl, hB5⟩
  replace hb := hb.trans (hB5.mono hs)
  replace hs := Nat.le_trans hs (hB5.size)
  replace p_l := p_l.below hB5
  have := mcheck_err l
  have := mcheck_le l
  refine L_mv (L_run (.int .i64 (((mcheckF l).1 : Nat) : Int)) (by kernel_rfl) (by kernel_rfl) (L_run (.int .i64 ((mcheckF l).2)) (by kernel_rfl) (by kernel_rfl) (L_as (L_as (L_nil (thenQ_normal (W_seq (W_region (L_mv (L_cmp .i64 ((mcheckF l).2) 0 ((mcheckF l).2 ≠ 0) rfl (cmp_ne ((mcheckF l).2) 0) (by kernel_rfl) (by kernel_rfl) ?_ ?_))))))))))
  · intro h7
    replace h7 : (mcheckF l).2 ≠ 0 := by omega
    refine L_nil (thenQ_normal (W_true (by kernel_rfl) (W_seq (W_region (L_as (L_nil (thenQ_normal (W_ret (thenQ_ret ?_)))))))))
    refine end_ret [.tmp 6] [(.bool true)] rfl rfl ⟨by kernel_rfl, trivial⟩ ?_
    have e0 : true = true := by rfl
    exact ⟨congrArg Value.bool e0, hb⟩
  · intro h8
    replace h8 : (mcheckF l).2 = 0 := by omega
    refine L_nil (thenQ_normal (W_false (by kernel_rfl) (W_skip (thenQ_normal (W_seq (W_region (L_mv (L_mv (L_call 20 [v_l, (.int .i32 r)] (by kernel_rfl) (by kernel_rfl) (c_mirrors_Of v_l l r _ p_l (by omega)) ?_)))))))))
    rintro _ w9 ⟨rfl, hB10⟩
    replace hb := hb.trans (hB10.mono hs)
    replace hs := Nat.le_trans hs (hB10.size)
    replace p_l := p_l.below hB10
    refine L_mv (L_run (.int .i32 ((ofF l r).1)) (by kernel_rfl) (by kernel_rfl) (L_run (.bool ((ofF l r).2)) (by kernel_rfl) (by kernel_rfl) (put_split ((ofF l r).2) ?_ ?_)))
    · intro h12
      refine L_as (L_as (L_nil (thenQ_normal (W_seq (W_region (L_mv (L_mv (L_call 20 [v_l, (.int .i32 ((ofF l r).1))] (by kernel_rfl) (by kernel_rfl) (c_mirrors_Of v_l l ((ofF l r).1) _ p_l (by omega)) ?_))))))))
      rintro _ w13 ⟨rfl, hB14⟩
      replace hb := hb.trans (hB14.mono hs)
      replace hs := Nat.le_trans hs (hB14.size)
      replace p_l := p_l.below hB14
      refine L_mv (L_run (.int .i32 ((ofF l ((ofF l r).1)).1)) (by kernel_rfl) (by kernel_rfl) (L_run (.bool ((ofF l ((ofF l r).1)).2)) (by kernel_rfl) (by kernel_rfl) (put_split ((ofF l ((ofF l r).1)).2) ?_ ?_)))
      · intro h16
        refine L_as (L_as (L_nil (thenQ_normal (W_seq (W_seq (W_region (L_mv (L_mv (L_cmp .i32 ((ofF l ((ofF l r).1)).1) r ((ofF l ((ofF l r).1)).1 ≠ r) rfl (cmp_ne ((ofF l ((ofF l r).1)).1) r) (by kernel_rfl) (by kernel_rfl) ?_ ?_)))))))))
        · intro h17
          replace h17 : (ofF l ((ofF l r).1)).1 ≠ r := by omega
          exfalso; exact h17 (of_back (by assumption) r)
        · intro h18
          replace h18 : (ofF l ((ofF l r).1)).1 = r := by omega
          refine L_mv (L_want (by kernel_rfl) (L_mv (L_want (by kernel_rfl) (L_mv (L_want (by kernel_rfl) (L_mv (L_want (by kernel_rfl) (L_cmp .i32 ((ofF l r).1) r ((ofF l r).1 = r) rfl (cmp_eq ((ofF l r).1) r) (by kernel_rfl) (by kernel_rfl) ?_ ?_))))))))
          · intro h19
            replace h19 : (ofF l r).1 = r := by omega
            refine L_want (by kernel_rfl) (L_run (.bool true) (by kernel_rfl) (by kernel_rfl) (L_pickF (by kernel_rfl) (L_nil (thenQ_normal (W_true (by kernel_rfl) (W_seq (W_region (L_as (L_nil (thenQ_normal (W_ret (thenQ_ret ?_))))))))))))
            refine end_ret [.tmp 6] [(.bool false)] rfl rfl ⟨by kernel_rfl, trivial⟩ ?_
            have e0 : false = true := by (exfalso; exact of_isY (l := l) (r := r) (by assumption) (by assumption) (by assumption))
            exact ⟨congrArg Value.bool e0, hb⟩
          · intro h20
            replace h20 : (ofF l r).1 ≠ r := by omega
            refine L_want (by kernel_rfl) (L_run (.bool false) (by kernel_rfl) (by kernel_rfl) (L_pickF (by kernel_rfl) (L_nil (thenQ_normal (W_false (by kernel_rfl) (W_skip (thenQ_normal (W_seq (W_seq (W_region (L_as (L_nil (thenQ_normal (W_block ?_))))))))))))))
            refine W_loop (fun m s0 w0 => ∃ (i : Nat), (m = l.length - i) ∧ (s0.ds = []) ∧ (s0.f 0 = v_l) ∧ (s0.f 1 = (S s)) ∧ (s0.f 13 = (.int .i64 ((i : Nat) : Int))) ∧ (Rd w0 encMir v_l l) ∧ (Below w.heap.size w w0) ∧ (w.heap.size ≤ w0.heap.size) ∧ (i ≤ l.length) ∧ (noSur l i)) _ ⟨0, rfl, by kernel_rfl, by kernel_rfl, by kernel_rfl, by kernel_rfl, p_l, hb, hs, (Nat.zero_le _), (noSur_zero _)⟩ ?_
            rintro m21 s22 w23 ⟨i, hm, hds, f_0, f_1, f_13, p_l, hb, hs, i1, i2⟩
            refine W_set 0 _ f_0 (W_set 1 _ f_1 (W_set 13 _ f_13 ?_))
            clear f_0 f_1 f_13
            refine W_seq (W_seq (W_region (L_mv (L_mv (L_len 35 27 (l).length v_l rfl Tryd.underlying35 (p_l).len (by kernel_rfl) (L_cmp .i64 ((i : Nat) : Int) (((l).length : Nat) : Int) (i < (l).length) rfl (cmpN_lt i ((l).length)) (by kernel_rfl) (by kernel_rfl) ?_ ?_))))))
            · intro h24
              replace h24 : i < (l).length := by omega
              refine L_nil (thenQ_normal (W_true (by kernel_rfl) (W_skip (thenQ_normal (W_seq (W_block (W_seq (W_region (L_mv (L_mv ?_))))))))))
              have hz := get_some l i (by omega); obtain ⟨x25, hx26⟩ := hz
              have hz := (p_l).at (k := 4) (fun _ => rfl) hx26
              obtain ⟨g27, off28, hl29, hc30⟩ := hz
              refine L_ixaddr (k := .i64) v_l i _ g27 off28 el35 hl29 (by omega) (by kernel_rfl) (by kernel_rfl) (L_run (.pointer (some ⟨g27, ((off28 + i * 4) + 1), none⟩)) (by kernel_rfl) (by kernel_rfl) (L_load g27 ((off28 + i * 4) + 1) (.int .i32 x25.2.1) (by kernel_rfl) (by kernel_rfl) (hc30 1 _ rfl) (L_cmp .i32 x25.2.1 55296 (55296 ≤ x25.2.1) rfl (cmp_ge x25.2.1 55296) (by kernel_rfl) (by kernel_rfl) ?_ ?_)))
              · intro h31
                replace h31 : 55296 ≤ x25.2.1 := by omega
                refine L_mv (L_want (by kernel_rfl) (L_mv (L_want (by kernel_rfl) (L_mv (L_want (by kernel_rfl) ?_)))))
                have hz := (p_l).at (k := 4) (fun _ => rfl) hx26
                obtain ⟨g34, off35, hl36, hc37⟩ := hz
                refine L_ixaddr (k := .i64) v_l i _ g34 off35 el35 hl36 (by omega) (by kernel_rfl) (by kernel_rfl) (L_want (by kernel_rfl) (L_run (.pointer (some ⟨g34, ((off35 + i * 4) + 1), none⟩)) (by kernel_rfl) (by kernel_rfl) (L_want (by kernel_rfl) (L_load g34 ((off35 + i * 4) + 1) (.int .i32 x25.2.1) (by kernel_rfl) (by kernel_rfl) (hc37 1 _ rfl) (L_want (by kernel_rfl) (L_cmp .i32 x25.2.1 57343 (x25.2.1 ≤ 57343) rfl (cmp_le x25.2.1 57343) (by kernel_rfl) (by kernel_rfl) ?_ ?_))))))
                · intro h38
                  replace h38 : x25.2.1 ≤ 57343 := by omega
                  refine L_pickT (by kernel_rfl) (L_nil (thenQ_normal (W_true (by kernel_rfl) (W_seq (W_region (L_as (L_nil (thenQ_normal (W_ret (blkQ_ret (thenQ_ret (thenQ_ret (blkQ_ret (thenQ_ret ?_))))))))))))))
                  refine end_ret [.tmp 6] [(.bool true)] rfl hds ⟨by kernel_rfl, trivial⟩ ?_
                  have e0 : true = true := by rfl
                  exact ⟨congrArg Value.bool e0, hb⟩
                · intro h39
                  replace h39 : 57343 < x25.2.1 := by omega
                  refine L_pickT (by kernel_rfl) (L_nil (thenQ_normal (W_false (by kernel_rfl) (W_skip (blkQ_normal (thenQ_normal (W_region (L_mv (L_addN i 1 (by omega) (by kernel_rfl) (by kernel_rfl) (L_as (L_nil ?_)))))))))))
                  refine thenQ_normal ⟨_, ?_, (i + 1), rfl, hds, by kernel_rfl, by kernel_rfl, by kernel_rfl, p_l, hb, hs, ?_, ?_⟩
                  · omega
                  · omega
                  · exact noSur_succ i2 (by assumption) (by omega)
              · intro h40
                replace h40 : x25.2.1 < 55296 := by omega
                refine L_mv (L_skip (by kernel_rfl) (L_skip (by kernel_rfl) (L_skip (by kernel_rfl) (L_skip (by kernel_rfl) (L_skip (by kernel_rfl) (L_skip (by kernel_rfl) (L_pickF (by kernel_rfl) (L_nil (thenQ_normal (W_false (by kernel_rfl) (W_skip (blkQ_normal (thenQ_normal (W_region (L_mv (L_addN i 1 (by omega) (by kernel_rfl) (by kernel_rfl) (L_as (L_nil ?_))))))))))))))))))
                refine thenQ_normal ⟨_, ?_, (i + 1), rfl, hds, by kernel_rfl, by kernel_rfl, by kernel_rfl, p_l, hb, hs, ?_, ?_⟩
                · omega
                · omega
                · exact noSur_succ i2 (by assumption) (by omega)
            · intro h41
              replace h41 : (l).length ≤ i := by omega
              refine L_nil (thenQ_normal (W_false (by kernel_rfl) (W_exit (thenQ_exit (thenQ_exit (blkQ_exit (thenQ_normal (W_seq (W_region (L_mv (L_mv (L_call 17 [v_l, (S s)] (by kernel_rfl) (by kernel_rfl) (c_mirrors_Text v_l l s _ p_l (by omega) (by omega)) ?_))))))))))))
              rintro _ w42 ⟨rfl, hB43⟩
              replace hb := hb.trans (hB43.mono hs)
              replace hs := Nat.le_trans hs (hB43.size)
              replace p_l := p_l.below hB43
              refine L_mv (L_run (S ((mtextF l s).1)) (by kernel_rfl) (by kernel_rfl) (L_run (.int .i64 (((mtextF l s).2 : Nat) : Int)) (by kernel_rfl) (by kernel_rfl) (L_as (L_as (L_nil (thenQ_normal (W_seq (W_region (L_mv (L_mv (L_call 17 [v_l, (S ((mtextF l s).1))] (by kernel_rfl) (by kernel_rfl) (c_mirrors_Text v_l l ((mtextF l s).1) _ p_l (by omega) (by omega)) ?_)))))))))))
              rintro _ w45 ⟨rfl, hB46⟩
              replace hb := hb.trans (hB46.mono hs)
              replace hs := Nat.le_trans hs (hB46.size)
              replace p_l := p_l.below hB46
              refine L_mv (L_run (S ((mtextF l ((mtextF l s).1)).1)) (by kernel_rfl) (by kernel_rfl) (L_run (.int .i64 (((mtextF l ((mtextF l s).1)).2 : Nat) : Int)) (by kernel_rfl) (by kernel_rfl) (L_as (L_as (L_nil (thenQ_normal (W_seq (W_region (L_mv (L_mv (L_seq ((mtextF l ((mtextF l s).1)).1) s rfl (by kernel_rfl) (by kernel_rfl) ?_ ?_)))))))))))
              · intro h48
                refine L_mv (L_want (by kernel_rfl) (L_mv (L_want (by kernel_rfl) (L_mv (L_want (by kernel_rfl) (L_cmp .i64 (((mtextF l s).2 : Nat) : Int) (((mtextF l ((mtextF l s).1)).2 : Nat) : Int) ((mtextF l s).2 = (mtextF l ((mtextF l s).1)).2) rfl (cmpN_eq ((mtextF l s).2) ((mtextF l ((mtextF l s).1)).2)) (by kernel_rfl) (by kernel_rfl) ?_ ?_))))))
                · intro h49
                  replace h49 : (mtextF l s).2 = (mtextF l ((mtextF l s).1)).2 := by omega
                  refine L_pickT (by kernel_rfl) (L_as (L_nil (thenQ_normal (W_ret ?_))))
                  refine end_ret [.tmp 6] [(.bool true)] rfl hds ⟨by kernel_rfl, trivial⟩ ?_
                  have e0 : true = true := by rfl
                  exact ⟨congrArg Value.bool e0, hb⟩
                · intro h50
                  replace h50 : (mtextF l s).2 ≠ (mtextF l ((mtextF l s).1)).2 := by omega
                  refine L_pickT (by kernel_rfl) (L_as (L_nil (thenQ_normal (W_ret ?_))))
                  refine end_ret [.tmp 6] [(.bool false)] rfl hds ⟨by kernel_rfl, trivial⟩ ?_
                  have e0 : false = true := by (exfalso; exact absurd (show (mtextF l s).2 = (mtextF l (mtextF l s).1).2 from (congrArg Prod.snd (twice_text (l := l) (by assumption) i2 (by omega) s)).symm) (by assumption))
                  exact ⟨congrArg Value.bool e0, hb⟩
              · intro h51
                refine L_mv (L_skip (by kernel_rfl) (L_skip (by kernel_rfl) (L_skip (by kernel_rfl) (L_pickF (by kernel_rfl) (L_as (L_nil (thenQ_normal (W_ret ?_))))))))
                refine end_ret [.tmp 6] [(.bool false)] rfl hds ⟨by kernel_rfl, trivial⟩ ?_
                have e0 : false = true := by (exfalso; exact absurd (show (mtextF l (mtextF l s).1).1 = s from congrArg Prod.fst (twice_text (l := l) (by assumption) i2 (by omega) s)) (by assumption))
                exact ⟨congrArg Value.bool e0, hb⟩
      · intro h52
        refine L_as (L_as (L_nil (thenQ_normal (W_seq (W_seq (W_region (L_mv (L_mv (L_cmp .i32 ((ofF l ((ofF l r).1)).1) r ((ofF l ((ofF l r).1)).1 ≠ r) rfl (cmp_ne ((ofF l ((ofF l r).1)).1) r) (by kernel_rfl) (by kernel_rfl) ?_ ?_)))))))))
        · intro h53
          replace h53 : (ofF l ((ofF l r).1)).1 ≠ r := by omega
          exfalso; exact h53 (of_back (by assumption) r)
        · intro h54
          replace h54 : (ofF l ((ofF l r).1)).1 = r := by omega
          refine L_mv (L_want (by kernel_rfl) (L_mv (L_want (by kernel_rfl) (L_mv (L_want (by kernel_rfl) (L_mv (L_want (by kernel_rfl) (L_cmp .i32 ((ofF l r).1) r ((ofF l r).1 = r) rfl (cmp_eq ((ofF l r).1) r) (by kernel_rfl) (by kernel_rfl) ?_ ?_))))))))
          · intro h55
            replace h55 : (ofF l r).1 = r := by omega
            refine L_want (by kernel_rfl) (L_run (.bool true) (by kernel_rfl) (by kernel_rfl) (L_pickF (by kernel_rfl) (L_nil (thenQ_normal (W_true (by kernel_rfl) (W_seq (W_region (L_as (L_nil (thenQ_normal (W_ret (thenQ_ret ?_))))))))))))
            refine end_ret [.tmp 6] [(.bool false)] rfl rfl ⟨by kernel_rfl, trivial⟩ ?_
            have e0 : false = true := by (exfalso; exact of_isY (l := l) (r := r) (by assumption) (by assumption) (by assumption))
            exact ⟨congrArg Value.bool e0, hb⟩
          · intro h56
            replace h56 : (ofF l r).1 ≠ r := by omega
            refine L_want (by kernel_rfl) (L_run (.bool false) (by kernel_rfl) (by kernel_rfl) (L_pickF (by kernel_rfl) (L_nil (thenQ_normal (W_false (by kernel_rfl) (W_skip (thenQ_normal (W_seq (W_seq (W_region (L_as (L_nil (thenQ_normal (W_block ?_))))))))))))))
            refine W_loop (fun m s0 w0 => ∃ (i : Nat), (m = l.length - i) ∧ (s0.ds = []) ∧ (s0.f 0 = v_l) ∧ (s0.f 1 = (S s)) ∧ (s0.f 13 = (.int .i64 ((i : Nat) : Int))) ∧ (Rd w0 encMir v_l l) ∧ (Below w.heap.size w w0) ∧ (w.heap.size ≤ w0.heap.size) ∧ (i ≤ l.length) ∧ (noSur l i)) _ ⟨0, rfl, by kernel_rfl, by kernel_rfl, by kernel_rfl, by kernel_rfl, p_l, hb, hs, (Nat.zero_le _), (noSur_zero _)⟩ ?_
            rintro m57 s58 w59 ⟨i, hm, hds, f_0, f_1, f_13, p_l, hb, hs, i1, i2⟩
            refine W_set 0 _ f_0 (W_set 1 _ f_1 (W_set 13 _ f_13 ?_))
            clear f_0 f_1 f_13
            refine W_seq (W_seq (W_region (L_mv (L_mv (L_len 35 27 (l).length v_l rfl Tryd.underlying35 (p_l).len (by kernel_rfl) (L_cmp .i64 ((i : Nat) : Int) (((l).length : Nat) : Int) (i < (l).length) rfl (cmpN_lt i ((l).length)) (by kernel_rfl) (by kernel_rfl) ?_ ?_))))))
            · intro h60
              replace h60 : i < (l).length := by omega
              refine L_nil (thenQ_normal (W_true (by kernel_rfl) (W_skip (thenQ_normal (W_seq (W_block (W_seq (W_region (L_mv (L_mv ?_))))))))))
              have hz := get_some l i (by omega); obtain ⟨x61, hx62⟩ := hz
              have hz := (p_l).at (k := 4) (fun _ => rfl) hx62
              obtain ⟨g63, off64, hl65, hc66⟩ := hz
              refine L_ixaddr (k := .i64) v_l i _ g63 off64 el35 hl65 (by omega) (by kernel_rfl) (by kernel_rfl) (L_run (.pointer (some ⟨g63, ((off64 + i * 4) + 1), none⟩)) (by kernel_rfl) (by kernel_rfl) (L_load g63 ((off64 + i * 4) + 1) (.int .i32 x61.2.1) (by kernel_rfl) (by kernel_rfl) (hc66 1 _ rfl) (L_cmp .i32 x61.2.1 55296 (55296 ≤ x61.2.1) rfl (cmp_ge x61.2.1 55296) (by kernel_rfl) (by kernel_rfl) ?_ ?_)))
              · intro h67
                replace h67 : 55296 ≤ x61.2.1 := by omega
                refine L_mv (L_want (by kernel_rfl) (L_mv (L_want (by kernel_rfl) (L_mv (L_want (by kernel_rfl) ?_)))))
                have hz := (p_l).at (k := 4) (fun _ => rfl) hx62
                obtain ⟨g70, off71, hl72, hc73⟩ := hz
                refine L_ixaddr (k := .i64) v_l i _ g70 off71 el35 hl72 (by omega) (by kernel_rfl) (by kernel_rfl) (L_want (by kernel_rfl) (L_run (.pointer (some ⟨g70, ((off71 + i * 4) + 1), none⟩)) (by kernel_rfl) (by kernel_rfl) (L_want (by kernel_rfl) (L_load g70 ((off71 + i * 4) + 1) (.int .i32 x61.2.1) (by kernel_rfl) (by kernel_rfl) (hc73 1 _ rfl) (L_want (by kernel_rfl) (L_cmp .i32 x61.2.1 57343 (x61.2.1 ≤ 57343) rfl (cmp_le x61.2.1 57343) (by kernel_rfl) (by kernel_rfl) ?_ ?_))))))
                · intro h74
                  replace h74 : x61.2.1 ≤ 57343 := by omega
                  refine L_pickT (by kernel_rfl) (L_nil (thenQ_normal (W_true (by kernel_rfl) (W_seq (W_region (L_as (L_nil (thenQ_normal (W_ret (blkQ_ret (thenQ_ret (thenQ_ret (blkQ_ret (thenQ_ret ?_))))))))))))))
                  refine end_ret [.tmp 6] [(.bool true)] rfl hds ⟨by kernel_rfl, trivial⟩ ?_
                  have e0 : true = true := by rfl
                  exact ⟨congrArg Value.bool e0, hb⟩
                · intro h75
                  replace h75 : 57343 < x61.2.1 := by omega
                  refine L_pickT (by kernel_rfl) (L_nil (thenQ_normal (W_false (by kernel_rfl) (W_skip (blkQ_normal (thenQ_normal (W_region (L_mv (L_addN i 1 (by omega) (by kernel_rfl) (by kernel_rfl) (L_as (L_nil ?_)))))))))))
                  refine thenQ_normal ⟨_, ?_, (i + 1), rfl, hds, by kernel_rfl, by kernel_rfl, by kernel_rfl, p_l, hb, hs, ?_, ?_⟩
                  · omega
                  · omega
                  · exact noSur_succ i2 (by assumption) (by omega)
              · intro h76
                replace h76 : x61.2.1 < 55296 := by omega
                refine L_mv (L_skip (by kernel_rfl) (L_skip (by kernel_rfl) (L_skip (by kernel_rfl) (L_skip (by kernel_rfl) (L_skip (by kernel_rfl) (L_skip (by kernel_rfl) (L_pickF (by kernel_rfl) (L_nil (thenQ_normal (W_false (by kernel_rfl) (W_skip (blkQ_normal (thenQ_normal (W_region (L_mv (L_addN i 1 (by omega) (by kernel_rfl) (by kernel_rfl) (L_as (L_nil ?_))))))))))))))))))
                refine thenQ_normal ⟨_, ?_, (i + 1), rfl, hds, by kernel_rfl, by kernel_rfl, by kernel_rfl, p_l, hb, hs, ?_, ?_⟩
                · omega
                · omega
                · exact noSur_succ i2 (by assumption) (by omega)
            · intro h77
              replace h77 : (l).length ≤ i := by omega
              refine L_nil (thenQ_normal (W_false (by kernel_rfl) (W_exit (thenQ_exit (thenQ_exit (blkQ_exit (thenQ_normal (W_seq (W_region (L_mv (L_mv (L_call 17 [v_l, (S s)] (by kernel_rfl) (by kernel_rfl) (c_mirrors_Text v_l l s _ p_l (by omega) (by omega)) ?_))))))))))))
              rintro _ w78 ⟨rfl, hB79⟩
              replace hb := hb.trans (hB79.mono hs)
              replace hs := Nat.le_trans hs (hB79.size)
              replace p_l := p_l.below hB79
              refine L_mv (L_run (S ((mtextF l s).1)) (by kernel_rfl) (by kernel_rfl) (L_run (.int .i64 (((mtextF l s).2 : Nat) : Int)) (by kernel_rfl) (by kernel_rfl) (L_as (L_as (L_nil (thenQ_normal (W_seq (W_region (L_mv (L_mv (L_call 17 [v_l, (S ((mtextF l s).1))] (by kernel_rfl) (by kernel_rfl) (c_mirrors_Text v_l l ((mtextF l s).1) _ p_l (by omega) (by omega)) ?_)))))))))))
              rintro _ w81 ⟨rfl, hB82⟩
              replace hb := hb.trans (hB82.mono hs)
              replace hs := Nat.le_trans hs (hB82.size)
              replace p_l := p_l.below hB82
              refine L_mv (L_run (S ((mtextF l ((mtextF l s).1)).1)) (by kernel_rfl) (by kernel_rfl) (L_run (.int .i64 (((mtextF l ((mtextF l s).1)).2 : Nat) : Int)) (by kernel_rfl) (by kernel_rfl) (L_as (L_as (L_nil (thenQ_normal (W_seq (W_region (L_mv (L_mv (L_seq ((mtextF l ((mtextF l s).1)).1) s rfl (by kernel_rfl) (by kernel_rfl) ?_ ?_)))))))))))
              · intro h84
                refine L_mv (L_want (by kernel_rfl) (L_mv (L_want (by kernel_rfl) (L_mv (L_want (by kernel_rfl) (L_cmp .i64 (((mtextF l s).2 : Nat) : Int) (((mtextF l ((mtextF l s).1)).2 : Nat) : Int) ((mtextF l s).2 = (mtextF l ((mtextF l s).1)).2) rfl (cmpN_eq ((mtextF l s).2) ((mtextF l ((mtextF l s).1)).2)) (by kernel_rfl) (by kernel_rfl) ?_ ?_))))))
                · intro h85
                  replace h85 : (mtextF l s).2 = (mtextF l ((mtextF l s).1)).2 := by omega
                  refine L_pickT (by kernel_rfl) (L_as (L_nil (thenQ_normal (W_ret ?_))))
                  refine end_ret [.tmp 6] [(.bool true)] rfl hds ⟨by kernel_rfl, trivial⟩ ?_
                  have e0 : true = true := by rfl
                  exact ⟨congrArg Value.bool e0, hb⟩
                · intro h86
                  replace h86 : (mtextF l s).2 ≠ (mtextF l ((mtextF l s).1)).2 := by omega
                  refine L_pickT (by kernel_rfl) (L_as (L_nil (thenQ_normal (W_ret ?_))))
                  refine end_ret [.tmp 6] [(.bool false)] rfl hds ⟨by kernel_rfl, trivial⟩ ?_
                  have e0 : false = true := by (exfalso; exact absurd (show (mtextF l s).2 = (mtextF l (mtextF l s).1).2 from (congrArg Prod.snd (twice_text (l := l) (by assumption) i2 (by omega) s)).symm) (by assumption))
                  exact ⟨congrArg Value.bool e0, hb⟩
              · intro h87
                refine L_mv (L_skip (by kernel_rfl) (L_skip (by kernel_rfl) (L_skip (by kernel_rfl) (L_pickF (by kernel_rfl) (L_as (L_nil (thenQ_normal (W_ret ?_))))))))
                refine end_ret [.tmp 6] [(.bool false)] rfl hds ⟨by kernel_rfl, trivial⟩ ?_
                have e0 : false = true := by (exfalso; exact absurd (show (mtextF l (mtextF l s).1).1 = s from congrArg Prod.fst (twice_text (l := l) (by assumption) i2 (by omega) s)) (by assumption))
                exact ⟨congrArg Value.bool e0, hb⟩
    · intro h88
      refine L_as (L_as (L_nil (thenQ_normal (W_seq (W_region (L_mv (L_mv (L_call 20 [v_l, (.int .i32 ((ofF l r).1))] (by kernel_rfl) (by kernel_rfl) (c_mirrors_Of v_l l ((ofF l r).1) _ p_l (by omega)) ?_))))))))
      rintro _ w89 ⟨rfl, hB90⟩
      replace hb := hb.trans (hB90.mono hs)
      replace hs := Nat.le_trans hs (hB90.size)
      replace p_l := p_l.below hB90
      refine L_mv (L_run (.int .i32 ((ofF l ((ofF l r).1)).1)) (by kernel_rfl) (by kernel_rfl) (L_run (.bool ((ofF l ((ofF l r).1)).2)) (by kernel_rfl) (by kernel_rfl) (put_split ((ofF l ((ofF l r).1)).2) ?_ ?_)))
      · intro h92
        refine L_as (L_as (L_nil (thenQ_normal (W_seq (W_seq (W_region (L_mv (L_mv (L_cmp .i32 ((ofF l ((ofF l r).1)).1) r ((ofF l ((ofF l r).1)).1 ≠ r) rfl (cmp_ne ((ofF l ((ofF l r).1)).1) r) (by kernel_rfl) (by kernel_rfl) ?_ ?_)))))))))
        · intro h93
          replace h93 : (ofF l ((ofF l r).1)).1 ≠ r := by omega
          exfalso; exact h93 (of_back (by assumption) r)
        · intro h94
          replace h94 : (ofF l ((ofF l r).1)).1 = r := by omega
          refine L_mv (L_want (by kernel_rfl) (L_mv (L_want (by kernel_rfl) (L_mv (L_want (by kernel_rfl) (L_mv (L_want (by kernel_rfl) (L_cmp .i32 ((ofF l r).1) r ((ofF l r).1 = r) rfl (cmp_eq ((ofF l r).1) r) (by kernel_rfl) (by kernel_rfl) ?_ ?_))))))))
          · intro h95
            replace h95 : (ofF l r).1 = r := by omega
            refine L_want (by kernel_rfl) (L_run (.bool false) (by kernel_rfl) (by kernel_rfl) (L_pickF (by kernel_rfl) (L_nil (thenQ_normal (W_false (by kernel_rfl) (W_skip (thenQ_normal (W_seq (W_seq (W_region (L_as (L_nil (thenQ_normal (W_block ?_))))))))))))))
            refine W_loop (fun m s0 w0 => ∃ (i : Nat), (m = l.length - i) ∧ (s0.ds = []) ∧ (s0.f 0 = v_l) ∧ (s0.f 1 = (S s)) ∧ (s0.f 13 = (.int .i64 ((i : Nat) : Int))) ∧ (Rd w0 encMir v_l l) ∧ (Below w.heap.size w w0) ∧ (w.heap.size ≤ w0.heap.size) ∧ (i ≤ l.length) ∧ (noSur l i)) _ ⟨0, rfl, by kernel_rfl, by kernel_rfl, by kernel_rfl, by kernel_rfl, p_l, hb, hs, (Nat.zero_le _), (noSur_zero _)⟩ ?_
            rintro m96 s97 w98 ⟨i, hm, hds, f_0, f_1, f_13, p_l, hb, hs, i1, i2⟩
            refine W_set 0 _ f_0 (W_set 1 _ f_1 (W_set 13 _ f_13 ?_))
            clear f_0 f_1 f_13
            refine W_seq (W_seq (W_region (L_mv (L_mv (L_len 35 27 (l).length v_l rfl Tryd.underlying35 (p_l).len (by kernel_rfl) (L_cmp .i64 ((i : Nat) : Int) (((l).length : Nat) : Int) (i < (l).length) rfl (cmpN_lt i ((l).length)) (by kernel_rfl) (by kernel_rfl) ?_ ?_))))))
            · intro h99
              replace h99 : i < (l).length := by omega
              refine L_nil (thenQ_normal (W_true (by kernel_rfl) (W_skip (thenQ_normal (W_seq (W_block (W_seq (W_region (L_mv (L_mv ?_))))))))))
              have hz := get_some l i (by omega); obtain ⟨x100, hx101⟩ := hz
              have hz := (p_l).at (k := 4) (fun _ => rfl) hx101
              obtain ⟨g102, off103, hl104, hc105⟩ := hz
              refine L_ixaddr (k := .i64) v_l i _ g102 off103 el35 hl104 (by omega) (by kernel_rfl) (by kernel_rfl) (L_run (.pointer (some ⟨g102, ((off103 + i * 4) + 1), none⟩)) (by kernel_rfl) (by kernel_rfl) (L_load g102 ((off103 + i * 4) + 1) (.int .i32 x100.2.1) (by kernel_rfl) (by kernel_rfl) (hc105 1 _ rfl) (L_cmp .i32 x100.2.1 55296 (55296 ≤ x100.2.1) rfl (cmp_ge x100.2.1 55296) (by kernel_rfl) (by kernel_rfl) ?_ ?_)))
              · intro h106
                replace h106 : 55296 ≤ x100.2.1 := by omega
                refine L_mv (L_want (by kernel_rfl) (L_mv (L_want (by kernel_rfl) (L_mv (L_want (by kernel_rfl) ?_)))))
                have hz := (p_l).at (k := 4) (fun _ => rfl) hx101
                obtain ⟨g109, off110, hl111, hc112⟩ := hz
                refine L_ixaddr (k := .i64) v_l i _ g109 off110 el35 hl111 (by omega) (by kernel_rfl) (by kernel_rfl) (L_want (by kernel_rfl) (L_run (.pointer (some ⟨g109, ((off110 + i * 4) + 1), none⟩)) (by kernel_rfl) (by kernel_rfl) (L_want (by kernel_rfl) (L_load g109 ((off110 + i * 4) + 1) (.int .i32 x100.2.1) (by kernel_rfl) (by kernel_rfl) (hc112 1 _ rfl) (L_want (by kernel_rfl) (L_cmp .i32 x100.2.1 57343 (x100.2.1 ≤ 57343) rfl (cmp_le x100.2.1 57343) (by kernel_rfl) (by kernel_rfl) ?_ ?_))))))
                · intro h113
                  replace h113 : x100.2.1 ≤ 57343 := by omega
                  refine L_pickT (by kernel_rfl) (L_nil (thenQ_normal (W_true (by kernel_rfl) (W_seq (W_region (L_as (L_nil (thenQ_normal (W_ret (blkQ_ret (thenQ_ret (thenQ_ret (blkQ_ret (thenQ_ret ?_))))))))))))))
                  refine end_ret [.tmp 6] [(.bool true)] rfl hds ⟨by kernel_rfl, trivial⟩ ?_
                  have e0 : true = true := by rfl
                  exact ⟨congrArg Value.bool e0, hb⟩
                · intro h114
                  replace h114 : 57343 < x100.2.1 := by omega
                  refine L_pickT (by kernel_rfl) (L_nil (thenQ_normal (W_false (by kernel_rfl) (W_skip (blkQ_normal (thenQ_normal (W_region (L_mv (L_addN i 1 (by omega) (by kernel_rfl) (by kernel_rfl) (L_as (L_nil ?_)))))))))))
                  refine thenQ_normal ⟨_, ?_, (i + 1), rfl, hds, by kernel_rfl, by kernel_rfl, by kernel_rfl, p_l, hb, hs, ?_, ?_⟩
                  · omega
                  · omega
                  · exact noSur_succ i2 (by assumption) (by omega)
              · intro h115
                replace h115 : x100.2.1 < 55296 := by omega
                refine L_mv (L_skip (by kernel_rfl) (L_skip (by kernel_rfl) (L_skip (by kernel_rfl) (L_skip (by kernel_rfl) (L_skip (by kernel_rfl) (L_skip (by kernel_rfl) (L_pickF (by kernel_rfl) (L_nil (thenQ_normal (W_false (by kernel_rfl) (W_skip (blkQ_normal (thenQ_normal (W_region (L_mv (L_addN i 1 (by omega) (by kernel_rfl) (by kernel_rfl) (L_as (L_nil ?_))))))))))))))))))
                refine thenQ_normal ⟨_, ?_, (i + 1), rfl, hds, by kernel_rfl, by kernel_rfl, by kernel_rfl, p_l, hb, hs, ?_, ?_⟩
                · omega
                · omega
                · exact noSur_succ i2 (by assumption) (by omega)
            · intro h116
              replace h116 : (l).length ≤ i := by omega
              refine L_nil (thenQ_normal (W_false (by kernel_rfl) (W_exit (thenQ_exit (thenQ_exit (blkQ_exit (thenQ_normal (W_seq (W_region (L_mv (L_mv (L_call 17 [v_l, (S s)] (by kernel_rfl) (by kernel_rfl) (c_mirrors_Text v_l l s _ p_l (by omega) (by omega)) ?_))))))))))))
              rintro _ w117 ⟨rfl, hB118⟩
              replace hb := hb.trans (hB118.mono hs)
              replace hs := Nat.le_trans hs (hB118.size)
              replace p_l := p_l.below hB118
              refine L_mv (L_run (S ((mtextF l s).1)) (by kernel_rfl) (by kernel_rfl) (L_run (.int .i64 (((mtextF l s).2 : Nat) : Int)) (by kernel_rfl) (by kernel_rfl) (L_as (L_as (L_nil (thenQ_normal (W_seq (W_region (L_mv (L_mv (L_call 17 [v_l, (S ((mtextF l s).1))] (by kernel_rfl) (by kernel_rfl) (c_mirrors_Text v_l l ((mtextF l s).1) _ p_l (by omega) (by omega)) ?_)))))))))))
              rintro _ w120 ⟨rfl, hB121⟩
              replace hb := hb.trans (hB121.mono hs)
              replace hs := Nat.le_trans hs (hB121.size)
              replace p_l := p_l.below hB121
              refine L_mv (L_run (S ((mtextF l ((mtextF l s).1)).1)) (by kernel_rfl) (by kernel_rfl) (L_run (.int .i64 (((mtextF l ((mtextF l s).1)).2 : Nat) : Int)) (by kernel_rfl) (by kernel_rfl) (L_as (L_as (L_nil (thenQ_normal (W_seq (W_region (L_mv (L_mv (L_seq ((mtextF l ((mtextF l s).1)).1) s rfl (by kernel_rfl) (by kernel_rfl) ?_ ?_)))))))))))
              · intro h123
                refine L_mv (L_want (by kernel_rfl) (L_mv (L_want (by kernel_rfl) (L_mv (L_want (by kernel_rfl) (L_cmp .i64 (((mtextF l s).2 : Nat) : Int) (((mtextF l ((mtextF l s).1)).2 : Nat) : Int) ((mtextF l s).2 = (mtextF l ((mtextF l s).1)).2) rfl (cmpN_eq ((mtextF l s).2) ((mtextF l ((mtextF l s).1)).2)) (by kernel_rfl) (by kernel_rfl) ?_ ?_))))))
                · intro h124
                  replace h124 : (mtextF l s).2 = (mtextF l ((mtextF l s).1)).2 := by omega
                  refine L_pickT (by kernel_rfl) (L_as (L_nil (thenQ_normal (W_ret ?_))))
                  refine end_ret [.tmp 6] [(.bool true)] rfl hds ⟨by kernel_rfl, trivial⟩ ?_
                  have e0 : true = true := by rfl
                  exact ⟨congrArg Value.bool e0, hb⟩
                · intro h125
                  replace h125 : (mtextF l s).2 ≠ (mtextF l ((mtextF l s).1)).2 := by omega
                  refine L_pickT (by kernel_rfl) (L_as (L_nil (thenQ_normal (W_ret ?_))))
                  refine end_ret [.tmp 6] [(.bool false)] rfl hds ⟨by kernel_rfl, trivial⟩ ?_
                  have e0 : false = true := by (exfalso; exact absurd (show (mtextF l s).2 = (mtextF l (mtextF l s).1).2 from (congrArg Prod.snd (twice_text (l := l) (by assumption) i2 (by omega) s)).symm) (by assumption))
                  exact ⟨congrArg Value.bool e0, hb⟩
              · intro h126
                refine L_mv (L_skip (by kernel_rfl) (L_skip (by kernel_rfl) (L_skip (by kernel_rfl) (L_pickF (by kernel_rfl) (L_as (L_nil (thenQ_normal (W_ret ?_))))))))
                refine end_ret [.tmp 6] [(.bool false)] rfl hds ⟨by kernel_rfl, trivial⟩ ?_
                have e0 : false = true := by (exfalso; exact absurd (show (mtextF l (mtextF l s).1).1 = s from congrArg Prod.fst (twice_text (l := l) (by assumption) i2 (by omega) s)) (by assumption))
                exact ⟨congrArg Value.bool e0, hb⟩
          · intro h127
            replace h127 : (ofF l r).1 ≠ r := by omega
            refine L_want (by kernel_rfl) (L_run (.bool true) (by kernel_rfl) (by kernel_rfl) (L_pickF (by kernel_rfl) (L_nil (thenQ_normal (W_true (by kernel_rfl) (W_seq (W_region (L_as (L_nil (thenQ_normal (W_ret (thenQ_ret ?_))))))))))))
            refine end_ret [.tmp 6] [(.bool false)] rfl rfl ⟨by kernel_rfl, trivial⟩ ?_
            have e0 : false = true := by (exfalso; exact of_isN (l := l) (r := r) (by assumption) (by assumption))
            exact ⟨congrArg Value.bool e0, hb⟩
      · intro h128
        refine L_as (L_as (L_nil (thenQ_normal (W_seq (W_seq (W_region (L_mv (L_mv (L_cmp .i32 ((ofF l ((ofF l r).1)).1) r ((ofF l ((ofF l r).1)).1 ≠ r) rfl (cmp_ne ((ofF l ((ofF l r).1)).1) r) (by kernel_rfl) (by kernel_rfl) ?_ ?_)))))))))
        · intro h129
          replace h129 : (ofF l ((ofF l r).1)).1 ≠ r := by omega
          exfalso; exact h129 (of_back (by assumption) r)
        · intro h130
          replace h130 : (ofF l ((ofF l r).1)).1 = r := by omega
          refine L_mv (L_want (by kernel_rfl) (L_mv (L_want (by kernel_rfl) (L_mv (L_want (by kernel_rfl) (L_mv (L_want (by kernel_rfl) (L_cmp .i32 ((ofF l r).1) r ((ofF l r).1 = r) rfl (cmp_eq ((ofF l r).1) r) (by kernel_rfl) (by kernel_rfl) ?_ ?_))))))))
          · intro h131
            replace h131 : (ofF l r).1 = r := by omega
            refine L_want (by kernel_rfl) (L_run (.bool false) (by kernel_rfl) (by kernel_rfl) (L_pickF (by kernel_rfl) (L_nil (thenQ_normal (W_false (by kernel_rfl) (W_skip (thenQ_normal (W_seq (W_seq (W_region (L_as (L_nil (thenQ_normal (W_block ?_))))))))))))))
            refine W_loop (fun m s0 w0 => ∃ (i : Nat), (m = l.length - i) ∧ (s0.ds = []) ∧ (s0.f 0 = v_l) ∧ (s0.f 1 = (S s)) ∧ (s0.f 13 = (.int .i64 ((i : Nat) : Int))) ∧ (Rd w0 encMir v_l l) ∧ (Below w.heap.size w w0) ∧ (w.heap.size ≤ w0.heap.size) ∧ (i ≤ l.length) ∧ (noSur l i)) _ ⟨0, rfl, by kernel_rfl, by kernel_rfl, by kernel_rfl, by kernel_rfl, p_l, hb, hs, (Nat.zero_le _), (noSur_zero _)⟩ ?_
            rintro m132 s133 w134 ⟨i, hm, hds, f_0, f_1, f_13, p_l, hb, hs, i1, i2⟩
            refine W_set 0 _ f_0 (W_set 1 _ f_1 (W_set 13 _ f_13 ?_))
            clear f_0 f_1 f_13
            refine W_seq (W_seq (W_region (L_mv (L_mv (L_len 35 27 (l).length v_l rfl Tryd.underlying35 (p_l).len (by kernel_rfl) (L_cmp .i64 ((i : Nat) : Int) (((l).length : Nat) : Int) (i < (l).length) rfl (cmpN_lt i ((l).length)) (by kernel_rfl) (by kernel_rfl) ?_ ?_))))))
            · intro h135
              replace h135 : i < (l).length := by omega
              refine L_nil (thenQ_normal (W_true (by kernel_rfl) (W_skip (thenQ_normal (W_seq (W_block (W_seq (W_region (L_mv (L_mv ?_))))))))))
              have hz := get_some l i (by omega); obtain ⟨x136, hx137⟩ := hz
              have hz := (p_l).at (k := 4) (fun _ => rfl) hx137
              obtain ⟨g138, off139, hl140, hc141⟩ := hz
              refine L_ixaddr (k := .i64) v_l i _ g138 off139 el35 hl140 (by omega) (by kernel_rfl) (by kernel_rfl) (L_run (.pointer (some ⟨g138, ((off139 + i * 4) + 1), none⟩)) (by kernel_rfl) (by kernel_rfl) (L_load g138 ((off139 + i * 4) + 1) (.int .i32 x136.2.1) (by kernel_rfl) (by kernel_rfl) (hc141 1 _ rfl) (L_cmp .i32 x136.2.1 55296 (55296 ≤ x136.2.1) rfl (cmp_ge x136.2.1 55296) (by kernel_rfl) (by kernel_rfl) ?_ ?_)))
              · intro h142
                replace h142 : 55296 ≤ x136.2.1 := by omega
                refine L_mv (L_want (by kernel_rfl) (L_mv (L_want (by kernel_rfl) (L_mv (L_want (by kernel_rfl) ?_)))))
                have hz := (p_l).at (k := 4) (fun _ => rfl) hx137
                obtain ⟨g145, off146, hl147, hc148⟩ := hz
                refine L_ixaddr (k := .i64) v_l i _ g145 off146 el35 hl147 (by omega) (by kernel_rfl) (by kernel_rfl) (L_want (by kernel_rfl) (L_run (.pointer (some ⟨g145, ((off146 + i * 4) + 1), none⟩)) (by kernel_rfl) (by kernel_rfl) (L_want (by kernel_rfl) (L_load g145 ((off146 + i * 4) + 1) (.int .i32 x136.2.1) (by kernel_rfl) (by kernel_rfl) (hc148 1 _ rfl) (L_want (by kernel_rfl) (L_cmp .i32 x136.2.1 57343 (x136.2.1 ≤ 57343) rfl (cmp_le x136.2.1 57343) (by kernel_rfl) (by kernel_rfl) ?_ ?_))))))
                · intro h149
                  replace h149 : x136.2.1 ≤ 57343 := by omega
                  refine L_pickT (by kernel_rfl) (L_nil (thenQ_normal (W_true (by kernel_rfl) (W_seq (W_region (L_as (L_nil (thenQ_normal (W_ret (blkQ_ret (thenQ_ret (thenQ_ret (blkQ_ret (thenQ_ret ?_))))))))))))))
                  refine end_ret [.tmp 6] [(.bool true)] rfl hds ⟨by kernel_rfl, trivial⟩ ?_
                  have e0 : true = true := by rfl
                  exact ⟨congrArg Value.bool e0, hb⟩
                · intro h150
                  replace h150 : 57343 < x136.2.1 := by omega
                  refine L_pickT (by kernel_rfl) (L_nil (thenQ_normal (W_false (by kernel_rfl) (W_skip (blkQ_normal (thenQ_normal (W_region (L_mv (L_addN i 1 (by omega) (by kernel_rfl) (by kernel_rfl) (L_as (L_nil ?_)))))))))))
                  refine thenQ_normal ⟨_, ?_, (i + 1), rfl, hds, by kernel_rfl, by kernel_rfl, by kernel_rfl, p_l, hb, hs, ?_, ?_⟩
                  · omega
                  · omega
                  · exact noSur_succ i2 (by assumption) (by omega)
              · intro h151
                replace h151 : x136.2.1 < 55296 := by omega
                refine L_mv (L_skip (by kernel_rfl) (L_skip (by kernel_rfl) (L_skip (by kernel_rfl) (L_skip (by kernel_rfl) (L_skip (by kernel_rfl) (L_skip (by kernel_rfl) (L_pickF (by kernel_rfl) (L_nil (thenQ_normal (W_false (by kernel_rfl) (W_skip (blkQ_normal (thenQ_normal (W_region (L_mv (L_addN i 1 (by omega) (by kernel_rfl) (by kernel_rfl) (L_as (L_nil ?_))))))))))))))))))
                refine thenQ_normal ⟨_, ?_, (i + 1), rfl, hds, by kernel_rfl, by kernel_rfl, by kernel_rfl, p_l, hb, hs, ?_, ?_⟩
                · omega
                · omega
                · exact noSur_succ i2 (by assumption) (by omega)
            · intro h152
              replace h152 : (l).length ≤ i := by omega
              refine L_nil (thenQ_normal (W_false (by kernel_rfl) (W_exit (thenQ_exit (thenQ_exit (blkQ_exit (thenQ_normal (W_seq (W_region (L_mv (L_mv (L_call 17 [v_l, (S s)] (by kernel_rfl) (by kernel_rfl) (c_mirrors_Text v_l l s _ p_l (by omega) (by omega)) ?_))))))))))))
              rintro _ w153 ⟨rfl, hB154⟩
              replace hb := hb.trans (hB154.mono hs)
              replace hs := Nat.le_trans hs (hB154.size)
              replace p_l := p_l.below hB154
              refine L_mv (L_run (S ((mtextF l s).1)) (by kernel_rfl) (by kernel_rfl) (L_run (.int .i64 (((mtextF l s).2 : Nat) : Int)) (by kernel_rfl) (by kernel_rfl) (L_as (L_as (L_nil (thenQ_normal (W_seq (W_region (L_mv (L_mv (L_call 17 [v_l, (S ((mtextF l s).1))] (by kernel_rfl) (by kernel_rfl) (c_mirrors_Text v_l l ((mtextF l s).1) _ p_l (by omega) (by omega)) ?_)))))))))))
              rintro _ w156 ⟨rfl, hB157⟩
              replace hb := hb.trans (hB157.mono hs)
              replace hs := Nat.le_trans hs (hB157.size)
              replace p_l := p_l.below hB157
              refine L_mv (L_run (S ((mtextF l ((mtextF l s).1)).1)) (by kernel_rfl) (by kernel_rfl) (L_run (.int .i64 (((mtextF l ((mtextF l s).1)).2 : Nat) : Int)) (by kernel_rfl) (by kernel_rfl) (L_as (L_as (L_nil (thenQ_normal (W_seq (W_region (L_mv (L_mv (L_seq ((mtextF l ((mtextF l s).1)).1) s rfl (by kernel_rfl) (by kernel_rfl) ?_ ?_)))))))))))
              · intro h159
                refine L_mv (L_want (by kernel_rfl) (L_mv (L_want (by kernel_rfl) (L_mv (L_want (by kernel_rfl) (L_cmp .i64 (((mtextF l s).2 : Nat) : Int) (((mtextF l ((mtextF l s).1)).2 : Nat) : Int) ((mtextF l s).2 = (mtextF l ((mtextF l s).1)).2) rfl (cmpN_eq ((mtextF l s).2) ((mtextF l ((mtextF l s).1)).2)) (by kernel_rfl) (by kernel_rfl) ?_ ?_))))))
                · intro h160
                  replace h160 : (mtextF l s).2 = (mtextF l ((mtextF l s).1)).2 := by omega
                  refine L_pickT (by kernel_rfl) (L_as (L_nil (thenQ_normal (W_ret ?_))))
                  refine end_ret [.tmp 6] [(.bool true)] rfl hds ⟨by kernel_rfl, trivial⟩ ?_
                  have e0 : true = true := by rfl
                  exact ⟨congrArg Value.bool e0, hb⟩
                · intro h161
                  replace h161 : (mtextF l s).2 ≠ (mtextF l ((mtextF l s).1)).2 := by omega
                  refine L_pickT (by kernel_rfl) (L_as (L_nil (thenQ_normal (W_ret ?_))))
                  refine end_ret [.tmp 6] [(.bool false)] rfl hds ⟨by kernel_rfl, trivial⟩ ?_
                  have e0 : false = true := by (exfalso; exact absurd (show (mtextF l s).2 = (mtextF l (mtextF l s).1).2 from (congrArg Prod.snd (twice_text (l := l) (by assumption) i2 (by omega) s)).symm) (by assumption))
                  exact ⟨congrArg Value.bool e0, hb⟩
              · intro h162
                refine L_mv (L_skip (by kernel_rfl) (L_skip (by kernel_rfl) (L_skip (by kernel_rfl) (L_pickF (by kernel_rfl) (L_as (L_nil (thenQ_normal (W_ret ?_))))))))
                refine end_ret [.tmp 6] [(.bool false)] rfl hds ⟨by kernel_rfl, trivial⟩ ?_
                have e0 : false = true := by (exfalso; exact absurd (show (mtextF l (mtextF l s).1).1 = s from congrArg Prod.fst (twice_text (l := l) (by assumption) i2 (by omega) s)) (by assumption))
                exact ⟨congrArg Value.bool e0, hb⟩
          · intro h163
            replace h163 : (ofF l r).1 ≠ r := by omega
            refine L_want (by kernel_rfl) (L_run (.bool true) (by kernel_rfl) (by kernel_rfl) (L_pickF (by kernel_rfl) (L_nil (thenQ_normal (W_true (by kernel_rfl) (W_seq (W_region (L_as (L_nil (thenQ_normal (W_ret (thenQ_ret ?_))))))))))))
            refine end_ret [.tmp 6] [(.bool false)] rfl rfl ⟨by kernel_rfl, trivial⟩ ?_
            have e0 : false = true := by (exfalso; exact of_isN (l := l) (r := r) (by assumption) (by assumption))
            exact ⟨congrArg Value.bool e0, hb⟩

set_option maxHeartbeats 4000000 in
set_option maxRecDepth 100000 in
theorem c_furrowlaw09_MirrorsPlaces (v_l : Value) (l : List (Mir)) (s : List UInt8) (w : World) (p_l : Rd w encMir v_l l) (hty : w.cell? ⟨0, 0, none⟩ = some (.iface 115 (.agg #[.pointer (some ⟨4, 55, none⟩)]))) (hl : l.length ≤ 1048576) (hs : s.length ≤ 1048576) :
    Calls Tryd.prog 8 #[v_l, (S s)] w (Ret fun v w' => v = (.bool true) ∧ Below w.heap.size w w') := by
  refine enter (args := [v_l, (S s)]) Tryd.func8 rfl (by kernel_rfl : _ = 77) (by kernel_rfl) ?_
  have hb := Below.refl w.heap.size w
  have hs : w.heap.size ≤ w.heap.size := Nat.le_refl _
  have in_p_l := p_l
  have htl := mtext_len l s
  have hrl := chrsL_len s
  have hrs := chrs_same l s
  refine W_seq (W_region (L_as (L_nil (thenQ_normal (W_seq (W_region (L_mv (L_mv (L_call 17 [v_l, (S s)] (by kernel_rfl) (by kernel_rfl) (c_mirrors_Text v_l l s _ p_l (by omega) (by omega)) ?_)))))))))
  rintro _ w1 ⟨rfl, hB2⟩
  replace hb := hb.trans (hB2.mono hs)
  replace hs := Nat.le_trans hs (hB2.size)
  replace p_l := p_l.below hB2
  refine L_mv (L_run (S ((mtextF l s).1)) (by kernel_rfl) (by kernel_rfl) (L_run (.int .i64 (((mtextF l s).2 : Nat) : Int)) (by kernel_rfl) (by kernel_rfl) (L_as (L_as (L_nil (thenQ_normal (W_seq (W_region (L_mv (L_toRunes s Tryd.underlying9 Tryd.underlying48 Tryd.underlying21 (by omega) w.heap.size hs (by kernel_rfl) ?_))))))))))
  intro v4 w5 hr6 hg7 how8 
  replace hb := hb.grown hg7 hs (fun k hk => by simp [Value.ownBlock] at hk)
  replace hs := Nat.le_trans hs (hg7.size)
  have p_l := in_p_l.below hb
  have r_20 := hr6
  refine L_mv (L_toRunes ((mtextF l s).1) Tryd.underlying9 Tryd.underlying48 Tryd.underlying21 (by omega) w.heap.size hs (by kernel_rfl) ?_)
  intro v9 w10 hr11 hg12 how13 
  have nap_r_20 := ap_app2 r_20 how13 (ap_nil _)
  replace hb := hb.grown hg12 hs (fun k hk => by simp [Value.ownBlock] at hk)
  replace hs := Nat.le_trans hs (hg12.size)
  have p_l := in_p_l.below hb
  have r_20 := r_20.grown hg12 (by cases h : Value.ownBlock _ <;> simp [Value.ownBlock])
  have ap_r_20_r_22 := nap_r_20
  have ap_r_22_r_20 := ap_comm nap_r_20
  have r_22 := hr11
  refine L_as (L_as (L_nil (thenQ_normal (W_seq (W_seq (W_region (L_mv (L_len 48 21 ((chrsL s)).length v4 rfl Tryd.underlying48 (r_20.rd).len (by kernel_rfl) (L_mv (L_len 48 21 ((chrsL ((mtextF l s).1))).length v9 rfl Tryd.underlying48 (r_22.rd).len (by kernel_rfl) (L_cmp .i64 ((((chrsL s)).length : Nat) : Int) ((((chrsL ((mtextF l s).1))).length : Nat) : Int) (((chrsL s)).length ≠ ((chrsL ((mtextF l s).1))).length) rfl (cmpN_ne (((chrsL s)).length) (((chrsL ((mtextF l s).1))).length)) (by kernel_rfl) (by kernel_rfl) ?_ ?_)))))))))))
  · intro h14
    replace h14 : ((chrsL s)).length ≠ ((chrsL ((mtextF l s).1))).length := by omega
    refine L_nil (thenQ_normal (W_true (by kernel_rfl) (W_seq (W_region (L_as (L_nil (thenQ_normal (W_ret (thenQ_ret ?_)))))))))
    refine end_ret [.tmp 4] [(.bool false)] rfl rfl ⟨by kernel_rfl, trivial⟩ ?_
    have e0 : false = true := by (exfalso; omega)
    exact ⟨congrArg Value.bool e0, hb⟩
  · intro h15
    replace h15 : ((chrsL s)).length = ((chrsL ((mtextF l s).1))).length := by omega
    refine L_nil (thenQ_normal (W_false (by kernel_rfl) (W_skip (thenQ_normal (W_seq (W_region (L_as (L_nil (thenQ_normal (W_seq (W_seq (W_region (L_as (L_nil (thenQ_normal (W_block ?_))))))))))))))))
    refine W_loop (fun m s0 w0 => ∃ (i : Nat) (c : Nat), (m = (chrsL s).length - i) ∧ (s0.ds = []) ∧ (s0.f 0 = v_l) ∧ (s0.f 6 = (.int .i64 (((mtextF l s).2 : Nat) : Int))) ∧ (s0.f 7 = v4) ∧ (s0.f 8 = v9) ∧ (s0.f 9 = (.int .i64 ((c : Nat) : Int))) ∧ (s0.f 10 = (.int .i64 ((i : Nat) : Int))) ∧ (Rd w0 encMir v_l l) ∧ (Row w0 w.heap.size 21 1 encI32 v4 (chrsL s)) ∧ (Row w0 w.heap.size 21 1 encI32 v9 (chrsL ((mtextF l s).1))) ∧ (Below w.heap.size w w0) ∧ (w.heap.size ≤ w0.heap.size) ∧ (i ≤ (chrsL s).length) ∧ (c ≤ i) ∧ (chI l s i c)) _ ⟨0, 0, rfl, by kernel_rfl, by kernel_rfl, by kernel_rfl, by kernel_rfl, by kernel_rfl, by kernel_rfl, by kernel_rfl, p_l, r_20, r_22, hb, hs, (Nat.zero_le _), (Nat.le_refl _), (ch_zero _ _)⟩ ?_
    rintro m16 s17 w18 ⟨i, c, hm, hds, f_0, f_6, f_7, f_8, f_9, f_10, p_l, r_20, r_22, hb, hs, i1, i3, i2⟩
    refine W_set 0 _ f_0 (W_set 6 _ f_6 (W_set 7 _ f_7 (W_set 8 _ f_8 (W_set 9 _ f_9 (W_set 10 _ f_10 ?_)))))
    clear f_0 f_6 f_7 f_8 f_9 f_10
    refine W_seq (W_seq (W_region (L_mv (L_mv (L_len 48 21 ((chrsL s)).length v4 rfl Tryd.underlying48 (r_20.rd).len (by kernel_rfl) (L_cmp .i64 ((i : Nat) : Int) ((((chrsL s)).length : Nat) : Int) (i < ((chrsL s)).length) rfl (cmpN_lt i (((chrsL s)).length)) (by kernel_rfl) (by kernel_rfl) ?_ ?_))))))
    · intro h19
      replace h19 : i < ((chrsL s)).length := by omega
      refine L_nil (thenQ_normal (W_true (by kernel_rfl) (W_skip (thenQ_normal (W_seq (W_block (W_seq (W_seq (W_quiet (by kernel_rfl) (by kernel_rfl) (Lq_mv (Lq_mv ?_)))))))))))
      have hz := get_some (chrsL s) i (by omega); obtain ⟨x20, hx21⟩ := hz
      have hz := (r_20.rd).at (k := 1) (fun _ => rfl) hx21
      obtain ⟨g22, off23, hl24, hc25⟩ := hz
      refine Lq_ixaddr (k := .i64) v4 i _ g22 off23 el48 hl24 (by omega) (by kernel_rfl) (by kernel_rfl) (Lq_load g22 (off23 + i * 1) (.int .i32 x20) (by kernel_rfl) (fun _ => by kernel_rfl) (hc25 0 _ rfl) (Lq_mv (Lq_mv ?_)))
      have hz := get_some (chrsL ((mtextF l s).1)) i (by omega); obtain ⟨x26, hx27⟩ := hz
      have hz := (r_22.rd).at (k := 1) (fun _ => rfl) hx27
      obtain ⟨g28, off29, hl30, hc31⟩ := hz
      refine Lq_ixaddr (k := .i64) v9 i _ g28 off29 el48 hl30 (by omega) (by kernel_rfl) (by kernel_rfl) (Lq_load g28 (off29 + i * 1) (.int .i32 x26) (by kernel_rfl) (fun _ => by kernel_rfl) (hc31 0 _ rfl) (Lq_cmp .i32 x20 x26 (x20 = x26) rfl (cmp_eq x20 x26) (by kernel_rfl) (by kernel_rfl) ?_ ?_))
      · intro h32
        replace h32 : x20 = x26 := by omega
        refine Lq_nil ?_
        intro w33 hB34
        replace hb := hb.trans (hB34.mono hs)
        replace hs := Nat.le_trans hs (hB34.size)
        replace p_l := p_l.below hB34
        replace r_20 := r_20.below hB34
        replace r_22 := r_22.below hB34
        refine thenQ_normal (W_true (by kernel_rfl) (W_exit (thenQ_exit (blkQ_exit (thenQ_normal (W_region (L_mv (L_addN i 1 (by omega) (by kernel_rfl) (by kernel_rfl) (L_as (L_nil ?_))))))))))
        refine thenQ_normal ⟨_, ?_, (i + 1), c, rfl, hds, by kernel_rfl, by kernel_rfl, by kernel_rfl, by kernel_rfl, by kernel_rfl, by kernel_rfl, p_l, r_20, r_22, hb, hs, ?_, ?_, ?_⟩
        · omega
        · omega
        · omega
        · first | exact ch_same (by assumption) i2 | exact ch_new (by assumption) (by assumption) (by assumption) i2
      · intro h35
        replace h35 : x20 ≠ x26 := by omega
        refine Lq_nil ?_
        intro w36 hB37
        replace hb := hb.trans (hB37.mono hs)
        replace hs := Nat.le_trans hs (hB37.size)
        replace p_l := p_l.below hB37
        replace r_20 := r_20.below hB37
        replace r_22 := r_22.below hB37
        refine thenQ_normal (W_false (by kernel_rfl) (W_skip (thenQ_normal (W_seq (W_region (L_mv (L_addN c 1 (by omega) (by kernel_rfl) (by kernel_rfl) (L_as (L_nil (thenQ_normal (W_seq (W_region (L_mv (L_mv (L_mv ?_)))))))))))))))
        have hz := (r_20.rd).at (k := 1) (fun _ => rfl) hx21
        obtain ⟨g40, off41, hl42, hc43⟩ := hz
        refine L_ixaddr (k := .i64) v4 i _ g40 off41 el48 hl42 (by omega) (by kernel_rfl) (by kernel_rfl) (L_load g40 (off41 + i * 1) (.int .i32 x20) (by kernel_rfl) (by kernel_rfl) (hc43 0 _ rfl) (L_call 20 [v_l, (.int .i32 x20)] (by kernel_rfl) (by kernel_rfl) (c_mirrors_Of v_l l x20 _ p_l (by omega)) ?_))
        rintro _ w44 ⟨rfl, hB45⟩
        replace hb := hb.trans (hB45.mono hs)
        replace hs := Nat.le_trans hs (hB45.size)
        replace p_l := p_l.below hB45
        replace r_20 := r_20.below hB45
        replace r_22 := r_22.below hB45
        refine L_mv (L_run (.int .i32 ((ofF l x20).1)) (by kernel_rfl) (by kernel_rfl) (L_run (.bool ((ofF l x20).2)) (by kernel_rfl) (by kernel_rfl) (put_split ((ofF l x20).2) ?_ ?_)))
        · intro h47
          refine L_as (L_as (L_nil (thenQ_normal (W_seq (W_region (L_mv (L_not true (by kernel_rfl) (L_mv (L_want (by kernel_rfl) (L_mv (L_want (by kernel_rfl) (L_mv (L_want (by kernel_rfl) (L_mv (L_want (by kernel_rfl) ?_)))))))))))))))
          have hz := (r_22.rd).at (k := 1) (fun _ => rfl) hx27
          obtain ⟨g50, off51, hl52, hc53⟩ := hz
          refine L_ixaddr (k := .i64) v9 i _ g50 off51 el48 hl52 (by omega) (by kernel_rfl) (by kernel_rfl) (L_want (by kernel_rfl) (L_load g50 (off51 + i * 1) (.int .i32 x26) (by kernel_rfl) (by kernel_rfl) (hc53 0 _ rfl) (L_want (by kernel_rfl) (L_cmp .i32 ((ofF l x20).1) x26 ((ofF l x20).1 ≠ x26) rfl (cmp_ne ((ofF l x20).1) x26) (by kernel_rfl) (by kernel_rfl) ?_ ?_))))
          · intro h54
            replace h54 : (ofF l x20).1 ≠ x26 := by omega
            refine L_want (by kernel_rfl) (L_mv (L_want (by kernel_rfl) (L_mv (L_want (by kernel_rfl) (L_mv (L_want (by kernel_rfl) ?_))))))
            have hz := (r_22.rd).at (k := 1) (fun _ => rfl) hx27
            obtain ⟨g57, off58, hl59, hc60⟩ := hz
            refine L_ixaddr (k := .i64) v9 i _ g57 off58 el48 hl59 (by omega) (by kernel_rfl) (by kernel_rfl) (L_want (by kernel_rfl) (L_load g57 (off58 + i * 1) (.int .i32 x26) (by kernel_rfl) (by kernel_rfl) (hc60 0 _ rfl) (L_want (by kernel_rfl) (L_cmp .i32 x26 65533 (x26 ≠ 65533) rfl (cmp_ne x26 65533) (by kernel_rfl) (by kernel_rfl) ?_ ?_))))
            · intro h61
              replace h61 : x26 ≠ 65533 := by omega
              refine L_want (by kernel_rfl) (L_pickT (by kernel_rfl) (L_pickF (by kernel_rfl) (L_nil (thenQ_normal (W_true (by kernel_rfl) (W_seq (W_region (L_as (L_nil (thenQ_normal (W_ret (blkQ_ret (thenQ_ret (thenQ_ret (blkQ_ret (thenQ_ret ?_))))))))))))))))
              refine end_ret [.tmp 4] [(.bool false)] rfl hds ⟨by kernel_rfl, trivial⟩ ?_
              have e0 : false = true := by (exfalso; have hz := pl_is (l := l) (s := s) (i := i) (by assumption) (by assumption) (by assumption); first | (rcases hz.2 with hz2 | hz2 <;> omega) | (have hz2 := hz.1; simp_all; done))
              exact ⟨congrArg Value.bool e0, hb⟩
            · intro h62
              replace h62 : x26 = 65533 := by omega
              refine L_want (by kernel_rfl) (L_pickT (by kernel_rfl) (L_pickF (by kernel_rfl) (L_nil (thenQ_normal (W_false (by kernel_rfl) (W_skip (blkQ_normal (thenQ_normal (W_region (L_mv (L_addN i 1 (by omega) (by kernel_rfl) (by kernel_rfl) (L_as (L_nil ?_)))))))))))))
              refine thenQ_normal ⟨_, ?_, (i + 1), (c + 1), rfl, hds, by kernel_rfl, by kernel_rfl, by kernel_rfl, by kernel_rfl, by kernel_rfl, by kernel_rfl, p_l, r_20, r_22, hb, hs, ?_, ?_, ?_⟩
              · omega
              · omega
              · omega
              · first | exact ch_same (by assumption) i2 | exact ch_new (by assumption) (by assumption) (by assumption) i2
          · intro h63
            replace h63 : (ofF l x20).1 = x26 := by omega
            refine L_want (by kernel_rfl) (L_mv (L_skip (by kernel_rfl) (L_skip (by kernel_rfl) (L_skip (by kernel_rfl) (L_skip (by kernel_rfl) (L_skip (by kernel_rfl) (L_want (by kernel_rfl) (L_pickF (by kernel_rfl) (L_pickF (by kernel_rfl) (L_nil (thenQ_normal (W_false (by kernel_rfl) (W_skip (blkQ_normal (thenQ_normal (W_region (L_mv (L_addN i 1 (by omega) (by kernel_rfl) (by kernel_rfl) (L_as (L_nil ?_))))))))))))))))))))
            refine thenQ_normal ⟨_, ?_, (i + 1), (c + 1), rfl, hds, by kernel_rfl, by kernel_rfl, by kernel_rfl, by kernel_rfl, by kernel_rfl, by kernel_rfl, p_l, r_20, r_22, hb, hs, ?_, ?_, ?_⟩
            · omega
            · omega
            · omega
            · first | exact ch_same (by assumption) i2 | exact ch_new (by assumption) (by assumption) (by assumption) i2
        · intro h64
          refine L_as (L_as (L_nil (thenQ_normal (W_seq (W_region (L_mv (L_not false (by kernel_rfl) (L_mv (L_skip (by kernel_rfl) (L_skip (by kernel_rfl) (L_skip (by kernel_rfl) (L_skip (by kernel_rfl) (L_skip (by kernel_rfl) (L_skip (by kernel_rfl) (L_skip (by kernel_rfl) (L_skip (by kernel_rfl) (L_skip (by kernel_rfl) (L_skip (by kernel_rfl) (L_skip (by kernel_rfl) (L_skip (by kernel_rfl) (L_skip (by kernel_rfl) (L_pickT (by kernel_rfl) (L_nil (thenQ_normal (W_true (by kernel_rfl) (W_seq (W_region (L_as (L_nil (thenQ_normal (W_ret (blkQ_ret (thenQ_ret (thenQ_ret (blkQ_ret (thenQ_ret ?_))))))))))))))))))))))))))))))))))))
          refine end_ret [.tmp 4] [(.bool false)] rfl hds ⟨by kernel_rfl, trivial⟩ ?_
          have e0 : false = true := by (exfalso; have hz := pl_is (l := l) (s := s) (i := i) (by assumption) (by assumption) (by assumption); first | (rcases hz.2 with hz2 | hz2 <;> omega) | (have hz2 := hz.1; simp_all; done))
          exact ⟨congrArg Value.bool e0, hb⟩
    · intro h65
      replace h65 : ((chrsL s)).length ≤ i := by omega
      refine L_nil (thenQ_normal (W_false (by kernel_rfl) (W_exit (thenQ_exit (thenQ_exit (blkQ_exit (thenQ_normal (W_seq (W_region (L_mv (L_mv (L_cmp .i64 ((c : Nat) : Int) (((mtextF l s).2 : Nat) : Int) (c ≤ (mtextF l s).2) rfl (cmpN_le c ((mtextF l s).2)) (by kernel_rfl) (by kernel_rfl) ?_ ?_))))))))))))
      · intro h66
        replace h66 : c ≤ (mtextF l s).2 := by omega
        refine L_mv (L_want (by kernel_rfl) (L_call 14 [] (by kernel_rfl) (by kernel_rfl) (c_furrowlaw09_awake  _ (gcell_below hty hb)) ?_))
        rintro _ w67 ⟨rfl, hB68⟩
        replace hb := hb.trans (hB68.mono hs)
        replace hs := Nat.le_trans hs (hB68.size)
        replace p_l := p_l.below hB68
        replace r_20 := r_20.below hB68
        replace r_22 := r_22.below hB68
        refine L_pickT (by kernel_rfl) (L_as (L_nil (thenQ_normal (W_ret ?_))))
        refine end_ret [.tmp 4] [(.bool true)] rfl hds ⟨by kernel_rfl, trivial⟩ ?_
        have e0 : true = true := by rfl
        exact ⟨congrArg Value.bool e0, hb⟩
      · intro h70
        replace h70 : (mtextF l s).2 < c := by omega
        refine L_mv (L_skip (by kernel_rfl) (L_pickF (by kernel_rfl) (L_as (L_nil (thenQ_normal (W_ret ?_))))))
        refine end_ret [.tmp 4] [(.bool false)] rfl hds ⟨by kernel_rfl, trivial⟩ ?_
        have e0 : false = true := by (exfalso; have hz := ch_end i2 (by omega); omega)
        exact ⟨congrArg Value.bool e0, hb⟩

end Go.Proofs.YtjdcmeoiommglaaDoor
