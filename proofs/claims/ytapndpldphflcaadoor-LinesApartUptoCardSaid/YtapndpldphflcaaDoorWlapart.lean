/- Walks, written by my program walk.py out of the specification lapart.py: each theorem says what one function returns and that it leaves memory as it was. -/
import Derived.Test.YtapndpldphflcaaDoorPLapart
import Derived.Test.YtapndpldphflcaaDoorWllines
import Derived.Test.YtapndpldphflcaaDoorWlscan
import Derived.Test.YtapndpldphflcaaDoorWlread
import Derived.Test.YtapndpldphflcaaDoorWlread2
import Derived.Test.YtapndpldphflcaaDoorWlawake
import Derived.Test.YtapndpldphflcaaDoorWlref
import Derived.Test.YtapndpldphflcaaDoorWllaw
import Derived.Test.YtapndpldphflcaaDoorWlreads
import Derived.Test.YtapndpldphflcaaDoorFKi
import Derived.Test.YtapndpldphflcaaDoorProg
import Derived.Tactics2
namespace Go.Proofs.YtapndpldphflcaaDoor
open Go Go.RowKit Go.FK
set_option linter.unusedVariables false
set_option linter.unusedSimpArgs false


set_option maxHeartbeats 4000000 in
set_option maxRecDepth 100000 in
theorem c_furrowlaw03_LinesApart (a : List UInt8) (b : List UInt8) (w : World) (hty : w.cell? ⟨0, 0, none⟩ = some (.iface 116 (.agg #[.pointer (some ⟨4, 56, none⟩)]))) (hs : a.length + b.length ≤ 1048576) :
    Calls Tryd.prog 9 #[(S a), (S b)] w (Ret fun v w' => v = (.bool true) ∧ Below w.heap.size w w') := by
  refine enter (args := [(S a), (S b)]) Tryd.func9 rfl (by kernel_rfl : _ = 129) (by kernel_rfl) ?_
  have hb := Below.refl w.heap.size w
  have hs : w.heap.size ≤ w.heap.size := Nat.le_refl _
  have hra := bad_line a
  have hrb := bad_line b
  have hrab := bad_line (a ++ b)
  rw [List.length_append] at hrab
  refine W_seq (W_region (L_as (L_nil (thenQ_normal (W_seq (W_seq (W_region (L_call 16 [] (by kernel_rfl) (by kernel_rfl) (c_furrowlaw03_awake  _ (gcell_below hty hb)) ?_))))))))
  rintro _ w1 ⟨rfl, hB2⟩
  replace hb := hb.trans (hB2.mono hs)
  replace hs := Nat.le_trans hs (hB2.size)
  refine L_not true (by kernel_rfl) (L_nil (thenQ_normal (W_false (by kernel_rfl) (W_skip (thenQ_normal (W_seq (W_seq (W_region (L_mv (L_sne a ([] : List UInt8) rfl (by kernel_rfl) (by kernel_rfl) ?_ ?_))))))))))
  · intro h4
    have := List.length_pos_iff.2 h4
    refine L_mv (L_want (by kernel_rfl) (L_mv (L_want (by kernel_rfl) (L_mv (L_want (by kernel_rfl) (L_slen 9 a rfl Tryd.underlying9 (by kernel_rfl) (L_want (by kernel_rfl) (L_subN ((a).length) 1 (by omega) (by omega) (by kernel_rfl) (by kernel_rfl) (L_want (by kernel_rfl) ?_)))))))))
    have hz := get_some a ((a).length - 1) (by first | omega | assumption | (simp only [List.length_append]; omega) | (simp only [List.length_append, List.length_set]; omega) | exact List.length_pos_iff.2 (by assumption) | (have := List.length_pos_iff.2 (by assumption : a ≠ []); omega)); obtain ⟨c5, hc6⟩ := hz
    have := c5.toNat_lt
    refine L_sindex (k := .i64) a ((a).length - 1) c5 Tryd.underlying9 hc6 (by kernel_rfl) (by kernel_rfl) (L_want (by kernel_rfl) (L_cmp .u8 ((c5.toNat : Nat) : Int) ((10 : Nat) : Int) (c5.toNat ≠ 10) rfl (cmpN_ne c5.toNat 10) (by kernel_rfl) (by kernel_rfl) ?_ ?_))
    · intro h7
      replace h7 : c5.toNat ≠ 10 := by omega
      refine L_pickT (by kernel_rfl) (L_mv (L_skip (by kernel_rfl) (L_skip (by kernel_rfl) (L_skip (by kernel_rfl) (L_pickT (by kernel_rfl) (L_mv (L_skip (by kernel_rfl) (L_skip (by kernel_rfl) (L_pickT (by kernel_rfl) (L_nil (thenQ_normal (W_true (by kernel_rfl) (W_seq (W_region (L_as (L_nil (thenQ_normal (W_ret (thenQ_ret ?_)))))))))))))))))))
      refine end_ret [.tmp 4] [(.bool true)] rfl rfl ⟨by kernel_rfl, trivial⟩ ?_
      have e0 : true = true := by first | rfl | (exfalso; omega) | (simp_all; done)
      exact ⟨congrArg Value.bool e0, hb⟩
    · intro h8
      replace h8 : c5.toNat = 10 := by omega
      refine L_pickT (by kernel_rfl) (L_mv (L_want (by kernel_rfl) (L_mv (L_want (by kernel_rfl) (L_call 34 [(S b)] (by kernel_rfl) (by kernel_rfl) (c_furrowref03_Marked b _ (by first | omega | assumption | (simp only [List.length_append]; omega) | (simp only [List.length_append, List.length_set]; omega) | exact List.length_pos_iff.2 (by assumption) | (have := List.length_pos_iff.2 (by assumption : a ≠ []); omega))) ?_)))))
      rintro _ w9 ⟨rfl, hB10⟩
      replace hb := hb.trans (hB10.mono hs)
      replace hs := Nat.le_trans hs (hB10.size)
      have := mark_len b
      refine L_want (by kernel_rfl) (L_cmp .i64 ((markN b : Nat) : Int) ((0 : Nat) : Int) (0 < markN b) rfl (cmpN_gt (markN b) 0) (by kernel_rfl) (by kernel_rfl) ?_ ?_)
      · intro h12
        replace h12 : 0 < markN b := by omega
        refine L_pickF (by kernel_rfl) (L_mv (L_skip (by kernel_rfl) (L_skip (by kernel_rfl) (L_pickT (by kernel_rfl) (L_nil (thenQ_normal (W_true (by kernel_rfl) (W_seq (W_region (L_as (L_nil (thenQ_normal (W_ret (thenQ_ret ?_))))))))))))))
        refine end_ret [.tmp 4] [(.bool true)] rfl rfl ⟨by kernel_rfl, trivial⟩ ?_
        have e0 : true = true := by first | rfl | (exfalso; omega) | (simp_all; done)
        exact ⟨congrArg Value.bool e0, hb⟩
      · intro h13
        replace h13 : markN b ≤ 0 := by omega
        refine L_pickF (by kernel_rfl) (L_mv (L_want (by kernel_rfl) (L_mv (L_want (by kernel_rfl) (L_seq a ([] : List UInt8) rfl (by kernel_rfl) (by kernel_rfl) ?_ ?_)))))
        · intro h14
          exact absurd h14 h4
        · intro h15
          have := List.length_pos_iff.2 h15
          refine L_pickF (by kernel_rfl) (L_nil (thenQ_normal (W_false (by kernel_rfl) (W_skip (thenQ_normal (W_seq (W_region (L_mv ?_))))))))
          by_cases hq16 : (badL (toldF a)).2 = 0
          · skip
            refine L_call 30 [(S ([120] : List UInt8)), (S a)] (by kernel_rfl) (by kernel_rfl) (c_lines_Read2_ok ([120] : List UInt8) a _ (by first | omega | assumption | (simp only [List.length_append]; omega) | (simp only [List.length_append, List.length_set]; omega) | exact List.length_pos_iff.2 (by assumption) | (have := List.length_pos_iff.2 (by assumption : a ≠ []); omega)) (by first | omega | assumption | (simp only [List.length_append]; omega) | (simp only [List.length_append, List.length_set]; omega) | exact List.length_pos_iff.2 (by assumption) | (have := List.length_pos_iff.2 (by assumption : a ≠ []); omega))) ?_
            rintro _ w18 ⟨l21, q17, rfl, r_q17, hx22, hx23, hx24, hx25, hB19⟩
            have lt_r_q17 := r_q17.lt; have sz_r_q17 := hB19.size
            replace r_q17 := r_q17.base hs
            replace hb := hb.trans (hB19.mono hs)
            replace hs := Nat.le_trans hs (hB19.size)
            refine L_mv (L_run q17 (by kernel_rfl) (by kernel_rfl) (L_run .nilIface (by kernel_rfl) (by kernel_rfl) (L_as (L_as (L_nil (thenQ_normal (W_seq (W_region (L_mv ?_)))))))))
            by_cases hq26 : (badL (toldF b)).2 = 0
            · skip
              refine L_call 30 [(S ([120] : List UInt8)), (S b)] (by kernel_rfl) (by kernel_rfl) (c_lines_Read2_ok ([120] : List UInt8) b _ (by first | omega | assumption | (simp only [List.length_append]; omega) | (simp only [List.length_append, List.length_set]; omega) | exact List.length_pos_iff.2 (by assumption) | (have := List.length_pos_iff.2 (by assumption : a ≠ []); omega)) (by first | omega | assumption | (simp only [List.length_append]; omega) | (simp only [List.length_append, List.length_set]; omega) | exact List.length_pos_iff.2 (by assumption) | (have := List.length_pos_iff.2 (by assumption : a ≠ []); omega))) ?_
              rintro _ w28 ⟨l31, q27, rfl, r_q27, hx32, hx33, hx34, hx35, hB29⟩
              have lt_r_q27 := r_q27.lt; have sz_r_q27 := hB29.size
              replace r_q27 := r_q27.base hs
              replace hb := hb.trans (hB29.mono hs)
              replace hs := Nat.le_trans hs (hB29.size)
              replace r_q17 := r_q17.below hB29
              refine L_mv (L_run q27 (by kernel_rfl) (by kernel_rfl) (L_run .nilIface (by kernel_rfl) (by kernel_rfl) (L_as (L_as (L_nil (thenQ_normal (W_seq (W_region (L_mv (L_mv (L_sadd a b (by first | omega | (simp only [List.length_append, List.length_cons, List.length_nil]; omega) | (simp only [bytesI, List.length_map, List.length_append, List.length_cons, List.length_nil]; omega)) (by kernel_rfl) (by kernel_rfl) ?_)))))))))))
              by_cases hq36 : (badL (toldF (a ++ b))).2 = 0
              · skip
                refine L_call 30 [(S ([120] : List UInt8)), (S (a ++ b))] (by kernel_rfl) (by kernel_rfl) (c_lines_Read2_ok ([120] : List UInt8) (a ++ b) _ (by first | omega | assumption | (simp only [List.length_append]; omega) | (simp only [List.length_append, List.length_set]; omega) | exact List.length_pos_iff.2 (by assumption) | (have := List.length_pos_iff.2 (by assumption : a ≠ []); omega)) (by first | omega | assumption | (simp only [List.length_append]; omega) | (simp only [List.length_append, List.length_set]; omega) | exact List.length_pos_iff.2 (by assumption) | (have := List.length_pos_iff.2 (by assumption : a ≠ []); omega))) ?_
                rintro _ w38 ⟨l41, q37, rfl, r_q37, hx42, hx43, hx44, hx45, hB39⟩
                have lt_r_q37 := r_q37.lt; have sz_r_q37 := hB39.size
                replace r_q37 := r_q37.base hs
                replace hb := hb.trans (hB39.mono hs)
                replace hs := Nat.le_trans hs (hB39.size)
                replace r_q17 := r_q17.below hB39
                replace r_q27 := r_q27.below hB39
                refine L_mv (L_run q37 (by kernel_rfl) (by kernel_rfl) (L_run .nilIface (by kernel_rfl) (by kernel_rfl) (L_as (L_as (L_nil (thenQ_normal (W_seq (W_seq (W_region (L_mv (L_run (.bool false) (by kernel_rfl) (by kernel_rfl) (L_mv (L_want (by kernel_rfl) (L_mv (L_want (by kernel_rfl) (L_run (.bool false) (by kernel_rfl) (by kernel_rfl) (L_pickF (by kernel_rfl) (L_nil (thenQ_normal (W_false (by kernel_rfl) (W_skip (thenQ_normal (W_seq (W_seq (W_region (L_as (L_nil (thenQ_normal (W_block ?_)))))))))))))))))))))))))))))
                have hz : ∃ K L, (∀ g, NOwn q17 l21 g → g < K) ∧ (∀ g, NOwn q27 l31 g → K ≤ g ∧ g < L) ∧ (∀ g, NOwn q37 l41 g → L ≤ g) ∧ K ≤ L := ⟨_, _, fun g h => (lt_r_q17 g h).2, fun g h => lt_r_q27 g h, fun g h => (lt_r_q37 g h).1, sz_r_q27⟩
                obtain ⟨K, L, gx, iN0, gz, kl⟩ := hz
                have hxl := hx22; have hyl := hx32; have hzl := hx42
                have hln := lines_len hxl; have htl := told_len a; have hfx := hx25; have hfy := hx35; have hlz := lines_len hzl; have htz := told_len (a ++ b); rw [List.length_append] at htz
                refine W_loop (fun m s0 w0 => ∃ (i : Nat) (ys : List LineV) (v_7 : Value), (m = ys.length - i) ∧ (s0.ds = []) ∧ (s0.f 4 = (.bool false)) ∧ (s0.f 5 = q17) ∧ (s0.f 9 = q37) ∧ (s0.f 10 = .nilIface) ∧ (s0.f 7 = v_7) ∧ (s0.f 14 = (.int .i64 ((i : Nat) : Int))) ∧ (NRow 9 w0 w.heap.size 47 5 encLine q17 l21) ∧ (NRow 9 w0 w.heap.size 47 5 encLine q37 l41) ∧ (NRow 9 w0 w.heap.size 47 5 encLine v_7 ys) ∧ (Below w.heap.size w w0) ∧ (w.heap.size ≤ w0.heap.size) ∧ (i ≤ ys.length) ∧ (∀ g, NOwn v_7 ys g → K ≤ g ∧ g < L) ∧ (ys.map stripL = shI l21.length i (linesF (toldF b))) ∧ (∀ x ∈ ys, x.fs.length ≤ 1073741824) ∧ (ys.length ≤ 1048577)) _ ⟨0, l31, q27, rfl, by kernel_rfl, by kernel_rfl, by kernel_rfl, by kernel_rfl, by kernel_rfl, by kernel_rfl, by kernel_rfl, r_q17, r_q37, r_q27, hb, hs, (Nat.zero_le _), iN0, (by rw [shI_zero]; exact hyl), hfy, (by have := lines_len hyl; have := told_len b; omega)⟩ ?_
                rintro m46 s47 w48 ⟨i, ys, v_7, hm, hds, f_4, f_5, f_9, f_10, f_7, f_14, r_q17, r_q37, r_7, hb, hs, i1, iN, i3, i4, i5⟩
                refine W_set 4 _ f_4 (W_set 5 _ f_5 (W_set 9 _ f_9 (W_set 10 _ f_10 (W_set 7 _ f_7 (W_set 14 _ f_14 ?_)))))
                clear f_4 f_5 f_9 f_10 f_7 f_14
                refine W_seq (W_seq (W_region (L_mv (L_mv (L_len 54 47 (ys).length v_7 rfl Tryd.underlying54 (r_7.rd).len (by kernel_rfl) (L_cmp .i64 ((i : Nat) : Int) (((ys).length : Nat) : Int) (i < (ys).length) rfl (cmpN_lt i ((ys).length)) (by kernel_rfl) (by kernel_rfl) ?_ ?_))))))
                · intro h49
                  replace h49 : i < (ys).length := by omega
                  refine L_nil (thenQ_normal (W_true (by kernel_rfl) (W_skip (thenQ_normal (W_seq (W_block (W_region (L_mv (L_mv ?_)))))))))
                  have hz := get_some ys i (by first | omega | assumption | (simp only [List.length_append]; omega) | (simp only [List.length_append, List.length_set]; omega) | exact List.length_pos_iff.2 (by assumption) | (have := List.length_pos_iff.2 (by assumption : a ≠ []); omega)); obtain ⟨x50, hx51⟩ := hz
                  have hz := (r_7.rd).at (k := 5) (fun _ => rfl) hx51
                  obtain ⟨g52, off53, hl54, hc55⟩ := hz
                  have hn_x50 := line_no i3 hx51
                  refine L_ixaddr (k := .i64) v_7 i _ g52 off53 el54 hl54 (by first | omega | assumption | (simp only [List.length_append]; omega) | (simp only [List.length_append, List.length_set]; omega) | exact List.length_pos_iff.2 (by assumption) | (have := List.length_pos_iff.2 (by assumption : a ≠ []); omega)) (by kernel_rfl) (by kernel_rfl) (L_run (.pointer (some ⟨g52, (off53 + i * 5), none⟩)) (by kernel_rfl) (by kernel_rfl) (L_load g52 (off53 + i * 5) (.int .i64 x50.1) (by kernel_rfl) (by kernel_rfl) (hc55 0 _ rfl) (L_mv (L_len 54 47 (l21).length q17 rfl Tryd.underlying54 (r_q17.rd).len (by kernel_rfl) (L_arith x50.1 (((l21).length : Nat) : Int) (x50.1 + (((l21).length : Nat) : Int)) rfl (by kernel_rfl) (by kernel_rfl) (wrap_i64 _ (by simp only [arithZ]; omega) (by simp only [arithZ]; omega)) ?_)))))
                  have hz := (r_7.rd).at (k := 5) (fun _ => rfl) hx51
                  obtain ⟨g58, off59, hl60, hc61⟩ := hz
                  refine L_ixaddr (k := .i64) v_7 i _ g58 off59 el54 hl60 (by first | omega | assumption | (simp only [List.length_append]; omega) | (simp only [List.length_append, List.length_set]; omega) | exact List.length_pos_iff.2 (by assumption) | (have := List.length_pos_iff.2 (by assumption : a ≠ []); omega)) (by kernel_rfl) (by kernel_rfl) (L_run (.pointer (some ⟨g58, (off59 + i * 5), none⟩)) (by kernel_rfl) (by kernel_rfl) (L_storeRow i 0 g58 off59 x50 ((x50.1 + (((l21).length : Nat) : Int)), x50.2.1, x50.2.2.1, ((LineV.v x50), (LineV.fs x50)), x50.2.2.2.2) (.int .i64 (x50.1 + (((l21).length : Nat) : Int))) r_7.1 (fun _ => rfl) hx51 hl60 (by kernel_rfl) (by kernel_rfl) rfl (by kernel_rfl) (by kernel_rfl) rfl ?_))
                  intro w62 hr63 hg64
                  replace hb := hb.grown hg64 hs (fun k hk => (World.ownsRow.lt r_7.1 k hk).1)
                  replace hs := Nat.le_trans hs (hg64.size)
                  have ap_r_q17_r_7 := (nap_two (K := K) gx (fun g h => (iN g h).1)).1
                  have ap_r_q37_r_7 := (nap_two (K := L) (fun g h => (iN g h).2) gz).2
                  have n_r_q17 := r_q17.grown hg64 ap_r_q17_r_7
                  have n_r_q37 := r_q37.grown hg64 ap_r_q37_r_7
                  replace r_q17 := n_r_q17; clear n_r_q17
                  replace r_q37 := n_r_q37; clear n_r_q37
                  replace r_7 := NRow.stored (y := ((x50.1 + (((l21).length : Nat) : Int)), x50.2.1, x50.2.2.1, ((LineV.v x50), (LineV.fs x50)), x50.2.2.2.2)) r_7 hx51 hr63 hg64 rfl rfl (by kernel_rfl)
                  replace iN := fun g h => iN g (nown_set (x := x50) (y := ((x50.1 + (((l21).length : Nat) : Int)), x50.2.1, x50.2.2.1, ((LineV.v x50), (LineV.fs x50)), x50.2.2.2.2)) hx51 rfl h)
                  have hx65 : (List.set ys i ((x50.1 + (((l21).length : Nat) : Int)), x50.2.1, x50.2.2.1, ((LineV.v x50), (LineV.fs x50)), x50.2.2.2.2))[i]? = some ((x50.1 + (((l21).length : Nat) : Int)), x50.2.1, x50.2.2.1, ((LineV.v x50), (LineV.fs x50)), x50.2.2.2.2) := set_here hx51
                  refine L_nil (blkQ_normal (thenQ_normal (W_region (L_mv (L_addN i 1 (by omega) (by kernel_rfl) (by kernel_rfl) (L_as (L_nil ?_)))))))
                  refine thenQ_normal ⟨_, ?_, (i + 1), (List.set ys i ((x50.1 + (((l21).length : Nat) : Int)), x50.2.1, x50.2.2.1, ((LineV.v x50), (LineV.fs x50)), x50.2.2.2.2)), v_7, rfl, hds, by kernel_rfl, by kernel_rfl, by kernel_rfl, by kernel_rfl, by kernel_rfl, by kernel_rfl, r_q17, r_q37, r_7, hb, hs, ?_, ?_, ?_, ?_, ?_⟩
                  · (simp only [List.length_set]; omega)
                  · simp only [List.length_set]; omega
                  · exact iN
                  · exact shI_step i3 (by assumption) (by rfl)
                  · exact fs_set i4 (by assumption) (by rfl)
                  · simp only [List.length_set]; omega
                · intro h66
                  replace h66 : (ys).length ≤ i := by omega
                  refine L_nil (thenQ_normal (W_false (by kernel_rfl) (W_exit (thenQ_exit (thenQ_exit (blkQ_exit (thenQ_normal (W_seq (W_region (L_mv (L_run (.bool true) (by kernel_rfl) (by kernel_rfl) (L_mv (L_want (by kernel_rfl) (L_mv (L_want (by kernel_rfl) (L_mv (L_want (by kernel_rfl) (L_mv (L_want (by kernel_rfl) (L_appAllN el54 w.heap.size q17 v_7 l21 ys hs r_q17.1 r_7.rd (by omega) (fun _ => rfl) (one_line r_7) (by kernel_rfl) (by kernel_rfl) (by kernel_rfl) ?_))))))))))))))))))))
                  intro v67 w68 hr69 hg70 how71
                  have ap_r_7_r_q17 := (nap_two (K := K) gx (fun g h => (iN g h).1)).2
                  have ap_r_q37_r_q17 := (nap_two (K := L) (fun g h => Nat.lt_of_lt_of_le (gx g h) kl) gz).2
                  have napp := NRow.app r_q17 r_7 hg70 hr69 (by kernel_rfl)
                  replace hb := hb.grown hg70 hs (fun k hk => (World.ownsRow.lt r_q17.1 k hk).1)
                  replace hs := Nat.le_trans hs (hg70.size)
                  have n_r_q37 := r_q37.grown hg70 ap_r_q37_r_q17
                  have n_r_7 := r_7.grown hg70 ap_r_7_r_q17
                  replace r_q37 := n_r_q37; clear n_r_q37
                  replace r_7 := n_r_7; clear n_r_7
                  replace r_q17 := napp
                  refine L_want (by kernel_rfl) (L_call 33 [q37, v67] (by kernel_rfl) (by kernel_rfl) (c_furrowref03_SameAll q37 l41 v67 (l21 ++ ys) _ (r_q37.nrd) (r_q17.nrd) (by first | omega | assumption | (simp only [List.length_append]; omega) | (simp only [List.length_append, List.length_set]; omega) | exact List.length_pos_iff.2 (by assumption) | (have := List.length_pos_iff.2 (by assumption : a ≠ []); omega)) (by first | omega | assumption | (simp only [List.length_append]; omega) | (simp only [List.length_append, List.length_set]; omega) | exact List.length_pos_iff.2 (by assumption) | (have := List.length_pos_iff.2 (by assumption : a ≠ []); omega)) (by first | omega | assumption | (simp only [List.length_append]; omega) | (simp only [List.length_append, List.length_set]; omega) | exact List.length_pos_iff.2 (by assumption) | (have := List.length_pos_iff.2 (by assumption : a ≠ []); omega)) (by exact fs_two hfx i4)) ?_)
                  rintro _ w72 ⟨rfl, hB73⟩
                  replace hb := hb.trans (hB73.mono hs)
                  replace hs := Nat.le_trans hs (hB73.size)
                  replace r_q17 := r_q17.below hB73
                  replace r_q37 := r_q37.below hB73
                  replace r_7 := r_7.below hB73
                  refine put_split (eqLs l41 (l21 ++ ys)) ?_ ?_
                  · intro h75
                    refine L_pickT (by kernel_rfl) (L_as (L_nil (thenQ_normal (W_ret ?_))))
                    refine end_ret [.tmp 4] [(.bool true)] rfl hds ⟨by kernel_rfl, trivial⟩ ?_
                    have e0 : true = true := by first | rfl | (exfalso; omega) | (simp_all; done)
                    exact ⟨congrArg Value.bool e0, hb⟩
                  · intro h76
                    exfalso; rw [apart_end (by assumption) (last_of (by assumption) (by assumption)) (by omega) (by assumption) hxl hzl i3 (by omega)] at h76; cases h76
              · skip
                exfalso; exact hq36 (ap_ok (by assumption) (last_of (by assumption) (by assumption)) (by omega) hq16 hq26)
            · skip
              refine L_call 30 [(S ([120] : List UInt8)), (S b)] (by kernel_rfl) (by kernel_rfl) (c_lines_Read_bad ([120] : List UInt8) b _ (by first | omega | assumption | (simp only [List.length_append]; omega) | (simp only [List.length_append, List.length_set]; omega) | exact List.length_pos_iff.2 (by assumption) | (have := List.length_pos_iff.2 (by assumption : a ≠ []); omega)) (by first | omega | assumption | (simp only [List.length_append]; omega) | (simp only [List.length_append, List.length_set]; omega) | exact List.length_pos_iff.2 (by assumption) | (have := List.length_pos_iff.2 (by assumption : a ≠ []); omega))) ?_
              rintro _ w77 ⟨cb80, rfl, o_cb80, g_cb80, hB78⟩
              replace g_cb80 := Nat.le_trans hs g_cb80
              replace hb := hb.trans (hB78.mono hs)
              replace hs := Nat.le_trans hs (hB78.size)
              replace r_q17 := r_q17.below hB78
              refine L_mv (L_run (.slice none 0 0) (by kernel_rfl) (by kernel_rfl) (L_run (.iface 61 (.pointer (some ⟨cb80, 0, none⟩))) (by kernel_rfl) (by kernel_rfl) (L_as (L_as (L_nil (thenQ_normal (W_seq (W_region (L_mv (L_mv (L_sadd a b (by first | omega | (simp only [List.length_append, List.length_cons, List.length_nil]; omega) | (simp only [bytesI, List.length_map, List.length_append, List.length_cons, List.length_nil]; omega)) (by kernel_rfl) (by kernel_rfl) ?_)))))))))))
              by_cases hq81 : (badL (toldF (a ++ b))).2 = 0
              · skip
                exfalso; exact hq26 (by rw [← (ap_bad2 (b := b) (by assumption) (last_of (by assumption) (by assumption)) (by omega) hq16 hq26).2]; exact hq81)
              · skip
                refine L_call 30 [(S ([120] : List UInt8)), (S (a ++ b))] (by kernel_rfl) (by kernel_rfl) (c_lines_Read_bad ([120] : List UInt8) (a ++ b) _ (by first | omega | assumption | (simp only [List.length_append]; omega) | (simp only [List.length_append, List.length_set]; omega) | exact List.length_pos_iff.2 (by assumption) | (have := List.length_pos_iff.2 (by assumption : a ≠ []); omega)) (by first | omega | assumption | (simp only [List.length_append]; omega) | (simp only [List.length_append, List.length_set]; omega) | exact List.length_pos_iff.2 (by assumption) | (have := List.length_pos_iff.2 (by assumption : a ≠ []); omega))) ?_
                rintro _ w82 ⟨cb85, rfl, o_cb85, g_cb85, hB83⟩
                have ne_cb80_cb85 : cb80 ≠ cb85 := by have := (obj_lt o_cb80); omega
                have ne_cb85_cb80 := ne_cb80_cb85.symm
                replace g_cb85 := Nat.le_trans hs g_cb85
                replace hb := hb.trans (hB83.mono hs)
                replace hs := Nat.le_trans hs (hB83.size)
                replace o_cb80 := obj_below o_cb80 hB83
                replace r_q17 := r_q17.below hB83
                refine L_mv (L_run (.slice none 0 0) (by kernel_rfl) (by kernel_rfl) (L_run (.iface 61 (.pointer (some ⟨cb85, 0, none⟩))) (by kernel_rfl) (by kernel_rfl) (L_as (L_as (L_nil (thenQ_normal (W_seq (W_seq (W_region (L_mv (L_run (.bool false) (by kernel_rfl) (by kernel_rfl) (L_mv (L_want (by kernel_rfl) (L_mv (L_want (by kernel_rfl) (L_run (.bool true) (by kernel_rfl) (by kernel_rfl) (L_pickF (by kernel_rfl) (L_nil (thenQ_normal (W_true (by kernel_rfl) (W_seq (W_region (L_new (fun b => .pointer (some ⟨b, 0, none⟩)) (.cells [(.pointer none)].toArray 61 (0, 0)) (by kernel_rfl) (by kernel_rfl) ?_)))))))))))))))))))))))
                intro b86 w87 hN88
                have ne_cb80_x11 : cb80 ≠ b86 := by have := (obj_lt o_cb80); have := hN88.num; omega
                have ne_x11_cb80 := ne_cb80_x11.symm
                have ne_cb85_x11 : cb85 ≠ b86 := by have := (obj_lt o_cb85); have := hN88.num; omega
                have ne_x11_cb85 := ne_cb85_x11.symm
                have g_x11 : w.heap.size ≤ b86 := by rw [hN88.num]; exact hs
                replace hb := hb.trans (hN88.below.mono hs)
                replace hs := Nat.le_trans hs (hN88.below.size)
                replace o_cb80 := obj_below o_cb80 hN88.below
                replace o_cb85 := obj_below o_cb85 hN88.below
                replace r_q17 := r_q17.below hN88.below
                have o_x11 := hN88.here
                refine L_new (fun b => .pointer (some ⟨b, 0, none⟩)) (.cells [(.pointer none)].toArray 61 (0, 0)) (by kernel_rfl) (by kernel_rfl) ?_
                intro b89 w90 hN91
                have ne_cb80_x12 : cb80 ≠ b89 := by have := (obj_lt o_cb80); have := hN91.num; omega
                have ne_x12_cb80 := ne_cb80_x12.symm
                have ne_cb85_x12 : cb85 ≠ b89 := by have := (obj_lt o_cb85); have := hN91.num; omega
                have ne_x12_cb85 := ne_cb85_x12.symm
                have ne_x11_x12 : b86 ≠ b89 := by have := (obj_lt o_x11); have := hN91.num; omega
                have ne_x12_x11 := ne_x11_x12.symm
                have g_x12 : w.heap.size ≤ b89 := by rw [hN91.num]; exact hs
                replace hb := hb.trans (hN91.below.mono hs)
                replace hs := Nat.le_trans hs (hN91.below.size)
                replace o_cb80 := obj_below o_cb80 hN91.below
                replace o_cb85 := obj_below o_cb85 hN91.below
                replace o_x11 := obj_below o_x11 hN91.below
                replace r_q17 := r_q17.below hN91.below
                have o_x12 := hN91.here
                refine L_nil (thenQ_normal (W_seq (W_region (L_as (L_nil (thenQ_normal (W_seq (W_seq (W_region (L_mv (L_run (.bool true) (by kernel_rfl) (by kernel_rfl) (L_nil (thenQ_normal (W_true (by kernel_rfl) (W_seq (W_region (L_mv (L_as (L_nil (thenQ_normal (W_region (L_mv (L_len 54 47 (l21).length q17 rfl Tryd.underlying54 (r_q17.rd).len (by kernel_rfl) (L_as (L_nil (thenQ_normal (W_seq (W_draws 41 (by kernel_rfl) (by kernel_rfl) (by kernel_rfl) ?_))))))))))))))))))))))))))))
                intro w92 hB93
                replace hb := hb.trans (hB93.mono hs)
                replace hs := Nat.le_trans hs (hB93.size)
                replace o_cb80 := obj_below o_cb80 hB93
                replace o_cb85 := obj_below o_cb85 hB93
                replace o_x11 := obj_below o_x11 hB93
                replace o_x12 := obj_below o_x12 hB93
                replace r_q17 := r_q17.below hB93
                refine I_take 0 (.iface 61 (.pointer (some ⟨cb80, 0, none⟩))) rfl (by kernel_rfl) (by kernel_rfl) (by kernel_rfl) (by kernel_rfl) (noPanic_then (noPanic_then noPanic_end)) (by kernel_rfl) (fun _ => by kernel_rfl) ?_
                refine I_take 1 (.iface 63 (.pointer (some ⟨b86, 0, none⟩))) rfl (by kernel_rfl) (by kernel_rfl) (by kernel_rfl) (by kernel_rfl) (noPanic_then (noPanic_then noPanic_end)) (by kernel_rfl) (fun _ => by kernel_rfl) ?_
                refine I_all1 2 (by kernel_rfl) ?_
                refine I_op 2 rfl ?_ rfl
                refine L_call 32 [(.iface 61 (.pointer (some ⟨cb80, 0, none⟩))), (.iface 63 (.pointer (some ⟨b86, 0, none⟩)))] (by kernel_rfl) (by kernel_rfl) (as_fk cb80 b86 (.pointer none) _ (gcell_below hty hb) o_x11) ?_
                rintro _ w94 ⟨rfl, w95, hB96, hW97⟩
                replace hb := hb.trans (hB96.mono hs)
                replace hs := Nat.le_trans hs (hB96.size)
                replace o_cb80 := obj_below o_cb80 hB96
                replace o_cb85 := obj_below o_cb85 hB96
                replace o_x11 := obj_below o_x11 hB96
                replace o_x12 := obj_below o_x12 hB96
                replace r_q17 := r_q17.below hB96
                replace hb := hb.trans (hW97.below g_x11)
                replace hs := Nat.le_trans hs (Nat.le_of_eq hW97.size.symm)
                have n_o_cb80 := obj_wrote o_cb80 hW97 (obj_ne o_cb80 o_x11 (by simp))
                have n_o_cb85 := obj_wrote o_cb85 hW97 (obj_ne o_cb85 o_x11 (by simp))
                have n_o_x12 := obj_wrote o_x12 hW97 ne_x12_x11
                have n_r_q17 := r_q17.wrote hW97 (r_q17.ne o_x11 (by simp))
                replace o_cb80 := n_o_cb80; clear n_o_cb80
                replace o_cb85 := n_o_cb85; clear n_o_cb85
                replace o_x12 := n_o_x12; clear n_o_x12
                replace r_q17 := n_r_q17; clear n_r_q17
                replace o_x11 := hW97.here
                refine L_nil ?_
                refine ⟨rfl, ?_⟩
                refine I_take 3 (.bool true) rfl (by kernel_rfl) (by kernel_rfl) (by kernel_rfl) (by kernel_rfl) (noPanic_then (noPanic_then noPanic_end)) (by kernel_rfl) (fun _ => by kernel_rfl) ?_
                refine I_take 4 (.iface 61 (.pointer (some ⟨cb85, 0, none⟩))) rfl (by kernel_rfl) (by kernel_rfl) (by kernel_rfl) (by kernel_rfl) (noPanic_then (noPanic_then noPanic_end)) (by kernel_rfl) (fun _ => by kernel_rfl) ?_
                refine I_take 5 (.iface 63 (.pointer (some ⟨b89, 0, none⟩))) rfl (by kernel_rfl) (by kernel_rfl) (by kernel_rfl) (by kernel_rfl) (noPanic_then (noPanic_then noPanic_end)) (by kernel_rfl) (fun _ => by kernel_rfl) ?_
                refine I_all1 6 (by kernel_rfl) ?_
                refine I_opG 6 rfl ?_ (by kernel_rfl)
                refine L_call 32 [(.iface 61 (.pointer (some ⟨cb85, 0, none⟩))), (.iface 63 (.pointer (some ⟨b89, 0, none⟩)))] (by kernel_rfl) (by kernel_rfl) (as_fk cb85 b89 (.pointer none) _ (gcell_below hty hb) o_x12) ?_
                rintro _ w98 ⟨rfl, w99, hB100, hW101⟩
                replace hb := hb.trans (hB100.mono hs)
                replace hs := Nat.le_trans hs (hB100.size)
                replace o_cb80 := obj_below o_cb80 hB100
                replace o_cb85 := obj_below o_cb85 hB100
                replace o_x11 := obj_below o_x11 hB100
                replace o_x12 := obj_below o_x12 hB100
                replace r_q17 := r_q17.below hB100
                replace hb := hb.trans (hW101.below g_x12)
                replace hs := Nat.le_trans hs (Nat.le_of_eq hW101.size.symm)
                have n_o_cb80 := obj_wrote o_cb80 hW101 (obj_ne o_cb80 o_x12 (by simp))
                have n_o_cb85 := obj_wrote o_cb85 hW101 (obj_ne o_cb85 o_x12 (by simp))
                have n_o_x11 := obj_wrote o_x11 hW101 ne_x11_x12
                have n_r_q17 := r_q17.wrote hW101 (r_q17.ne o_x12 (by simp))
                replace o_cb80 := n_o_cb80; clear n_o_cb80
                replace o_cb85 := n_o_cb85; clear n_o_cb85
                replace o_x11 := n_o_x11; clear n_o_x11
                replace r_q17 := n_r_q17; clear n_r_q17
                replace o_x12 := hW101.here
                refine L_nil ?_
                refine ⟨rfl, ?_⟩
                refine I_quiet 7 (by kernel_rfl) (by kernel_rfl) (by kernel_rfl) (by kernel_rfl) ?_
                refine Lq_pickT (by kernel_rfl) (Lq_mv (Lq_want (by kernel_rfl) (Lq_load b86 0 (.pointer (some ⟨cb80, 0, none⟩)) (by kernel_rfl) (fun _ => by kernel_rfl) (cell_obj o_x11 rfl) (Lq_want (by kernel_rfl) (Lq_run (.bool true) (fun _ => by kernel_rfl) (Lq_pickT (by kernel_rfl) (Lq_mv (Lq_want (by kernel_rfl) (Lq_load b89 0 (.pointer (some ⟨cb85, 0, none⟩)) (by kernel_rfl) (fun _ => by kernel_rfl) (cell_obj o_x12 rfl) (Lq_want (by kernel_rfl) (Lq_run (.bool true) (fun _ => by kernel_rfl) (Lq_pickT (by kernel_rfl) (Lq_mv (Lq_want (by kernel_rfl) (Lq_load b89 0 (.pointer (some ⟨cb85, 0, none⟩)) (by kernel_rfl) (fun _ => by kernel_rfl) (cell_obj o_x12 rfl) (Lq_want (by kernel_rfl) (Lq_run (.pointer (some ⟨cb85, 0, none⟩)) (fun _ => by kernel_rfl) (Lq_want (by kernel_rfl) (Lq_run (.pointer (some ⟨cb85, 2, none⟩)) (fun _ => by kernel_rfl) (Lq_want (by kernel_rfl) (Lq_load cb85 2 (.int .i64 ((badL (toldF (a ++ b))).2)) (by kernel_rfl) (fun _ => by kernel_rfl) (cell_obj o_cb85 rfl) (Lq_want (by kernel_rfl) (Lq_load b86 0 (.pointer (some ⟨cb80, 0, none⟩)) (by kernel_rfl) (fun _ => by kernel_rfl) (cell_obj o_x11 rfl) (Lq_want (by kernel_rfl) (Lq_run (.pointer (some ⟨cb80, 0, none⟩)) (fun _ => by kernel_rfl) (Lq_want (by kernel_rfl) (Lq_run (.pointer (some ⟨cb80, 2, none⟩)) (fun _ => by kernel_rfl) (Lq_want (by kernel_rfl) (Lq_load cb80 2 (.int .i64 ((badL (toldF b)).2)) (by kernel_rfl) (fun _ => by kernel_rfl) (cell_obj o_cb80 rfl) (Lq_want (by kernel_rfl) (Lq_cmp .i64 ((badL (toldF (a ++ b))).2) ((badL (toldF b)).2) ((badL (toldF (a ++ b))).2 = (badL (toldF b)).2) rfl (cmp_eq ((badL (toldF (a ++ b))).2) ((badL (toldF b)).2)) (by kernel_rfl) (by kernel_rfl) ?_ ?_)))))))))))))))))))))))))))))))
                · intro h102
                  replace h102 : (badL (toldF (a ++ b))).2 = (badL (toldF b)).2 := by omega
                  refine Lq_pickT (by kernel_rfl) (Lq_mv (Lq_want (by kernel_rfl) (Lq_load b89 0 (.pointer (some ⟨cb85, 0, none⟩)) (by kernel_rfl) (fun _ => by kernel_rfl) (cell_obj o_x12 rfl) (Lq_want (by kernel_rfl) (Lq_run (.pointer (some ⟨cb85, 0, none⟩)) (fun _ => by kernel_rfl) (Lq_want (by kernel_rfl) (Lq_run (.pointer (some ⟨cb85, 1, none⟩)) (fun _ => by kernel_rfl) (Lq_want (by kernel_rfl) (Lq_load cb85 1 (.int .i64 ((badL (toldF (a ++ b))).1)) (by kernel_rfl) (fun _ => by kernel_rfl) (cell_obj o_cb85 rfl) (Lq_want (by kernel_rfl) (Lq_load b86 0 (.pointer (some ⟨cb80, 0, none⟩)) (by kernel_rfl) (fun _ => by kernel_rfl) (cell_obj o_x11 rfl) (Lq_want (by kernel_rfl) (Lq_run (.pointer (some ⟨cb80, 0, none⟩)) (fun _ => by kernel_rfl) (Lq_want (by kernel_rfl) (Lq_run (.pointer (some ⟨cb80, 1, none⟩)) (fun _ => by kernel_rfl) (Lq_want (by kernel_rfl) (Lq_load cb80 1 (.int .i64 ((badL (toldF b)).1)) (by kernel_rfl) (fun _ => by kernel_rfl) (cell_obj o_cb80 rfl) (Lq_want (by kernel_rfl) (Lq_mv (Lq_want (by kernel_rfl) (Lq_arith ((badL (toldF b)).1) (((l21).length : Nat) : Int) ((badL (toldF b)).1 + (((l21).length : Nat) : Int)) rfl (by kernel_rfl) (by kernel_rfl) (wrap_i64 _ (by simp only [arithZ]; omega) (by simp only [arithZ]; omega)) (Lq_want (by kernel_rfl) (Lq_cmp .i64 ((badL (toldF (a ++ b))).1) ((badL (toldF b)).1 + (((l21).length : Nat) : Int)) ((badL (toldF (a ++ b))).1 = ((badL (toldF b)).1 + (((l21).length : Nat) : Int))) rfl (cmp_eq ((badL (toldF (a ++ b))).1) ((badL (toldF b)).1 + (((l21).length : Nat) : Int))) (by kernel_rfl) (by kernel_rfl) ?_ ?_)))))))))))))))))))))))
                  · intro h103
                    replace h103 : (badL (toldF (a ++ b))).1 = ((badL (toldF b)).1 + (((l21).length : Nat) : Int)) := by omega
                    refine Lq_pickT (by kernel_rfl) (Lq_as (Lq_nil ?_))
                    intro w104 hB105
                    replace hb := hb.trans (hB105.mono hs)
                    replace hs := Nat.le_trans hs (hB105.size)
                    replace o_cb80 := obj_below o_cb80 hB105
                    replace o_cb85 := obj_below o_cb85 hB105
                    replace o_x11 := obj_below o_x11 hB105
                    replace o_x12 := obj_below o_x12 hB105
                    replace r_q17 := r_q17.below hB105
                    refine thenQ_normal (W_ret (thenQ_ret ?_))
                    refine end_ret [.tmp 4] [(.bool true)] rfl rfl ⟨by kernel_rfl, trivial⟩ ?_
                    have e0 : true = true := by first | rfl | (exfalso; omega) | (simp_all; done)
                    exact ⟨congrArg Value.bool e0, hb⟩
                  · intro h106
                    replace h106 : (badL (toldF (a ++ b))).1 ≠ ((badL (toldF b)).1 + (((l21).length : Nat) : Int)) := by omega
                    exfalso; first | (refine h106 ?_; rw [ap_bad1 (b := b) (by assumption) (last_of (by assumption) (by assumption)) (by omega) (by assumption)]; omega) | (refine h106 ?_; rw [(ap_bad2 (b := b) (by assumption) (last_of (by assumption) (by assumption)) (by omega) (by assumption) (by assumption)).1]; have := lines_len (by assumption : _ = linesF (toldF a)); omega)
                · intro h107
                  replace h107 : (badL (toldF (a ++ b))).2 ≠ (badL (toldF b)).2 := by omega
                  exfalso; first | exact h107 (by rw [ap_bad1 (b := b) (by assumption) (last_of (by assumption) (by assumption)) (by omega) (by assumption)]) | exact h107 (ap_bad2 (b := b) (by assumption) (last_of (by assumption) (by assumption)) (by omega) (by assumption) (by assumption)).2
          · skip
            refine L_call 30 [(S ([120] : List UInt8)), (S a)] (by kernel_rfl) (by kernel_rfl) (c_lines_Read_bad ([120] : List UInt8) a _ (by first | omega | assumption | (simp only [List.length_append]; omega) | (simp only [List.length_append, List.length_set]; omega) | exact List.length_pos_iff.2 (by assumption) | (have := List.length_pos_iff.2 (by assumption : a ≠ []); omega)) (by first | omega | assumption | (simp only [List.length_append]; omega) | (simp only [List.length_append, List.length_set]; omega) | exact List.length_pos_iff.2 (by assumption) | (have := List.length_pos_iff.2 (by assumption : a ≠ []); omega))) ?_
            rintro _ w108 ⟨cb111, rfl, o_cb111, g_cb111, hB109⟩
            replace g_cb111 := Nat.le_trans hs g_cb111
            replace hb := hb.trans (hB109.mono hs)
            replace hs := Nat.le_trans hs (hB109.size)
            refine L_mv (L_run (.slice none 0 0) (by kernel_rfl) (by kernel_rfl) (L_run (.iface 61 (.pointer (some ⟨cb111, 0, none⟩))) (by kernel_rfl) (by kernel_rfl) (L_as (L_as (L_nil (thenQ_normal (W_seq (W_region (L_mv ?_)))))))))
            by_cases hq112 : (badL (toldF b)).2 = 0
            · skip
              refine L_call 30 [(S ([120] : List UInt8)), (S b)] (by kernel_rfl) (by kernel_rfl) (c_lines_Read2_ok ([120] : List UInt8) b _ (by first | omega | assumption | (simp only [List.length_append]; omega) | (simp only [List.length_append, List.length_set]; omega) | exact List.length_pos_iff.2 (by assumption) | (have := List.length_pos_iff.2 (by assumption : a ≠ []); omega)) (by first | omega | assumption | (simp only [List.length_append]; omega) | (simp only [List.length_append, List.length_set]; omega) | exact List.length_pos_iff.2 (by assumption) | (have := List.length_pos_iff.2 (by assumption : a ≠ []); omega))) ?_
              rintro _ w114 ⟨l117, q113, rfl, r_q113, hx118, hx119, hx120, hx121, hB115⟩
              have lt_r_q113 := r_q113.lt; have sz_r_q113 := hB115.size
              replace r_q113 := r_q113.base hs
              replace hb := hb.trans (hB115.mono hs)
              replace hs := Nat.le_trans hs (hB115.size)
              replace o_cb111 := obj_below o_cb111 hB115
              refine L_mv (L_run q113 (by kernel_rfl) (by kernel_rfl) (L_run .nilIface (by kernel_rfl) (by kernel_rfl) (L_as (L_as (L_nil (thenQ_normal (W_seq (W_region (L_mv (L_mv (L_sadd a b (by first | omega | (simp only [List.length_append, List.length_cons, List.length_nil]; omega) | (simp only [bytesI, List.length_map, List.length_append, List.length_cons, List.length_nil]; omega)) (by kernel_rfl) (by kernel_rfl) ?_)))))))))))
              by_cases hq122 : (badL (toldF (a ++ b))).2 = 0
              · skip
                exfalso; exact hq16 (by rw [← ap_bad1 (b := b) (by assumption) (last_of (by assumption) (by assumption)) (by omega) hq16]; exact hq122)
              · skip
                refine L_call 30 [(S ([120] : List UInt8)), (S (a ++ b))] (by kernel_rfl) (by kernel_rfl) (c_lines_Read_bad ([120] : List UInt8) (a ++ b) _ (by first | omega | assumption | (simp only [List.length_append]; omega) | (simp only [List.length_append, List.length_set]; omega) | exact List.length_pos_iff.2 (by assumption) | (have := List.length_pos_iff.2 (by assumption : a ≠ []); omega)) (by first | omega | assumption | (simp only [List.length_append]; omega) | (simp only [List.length_append, List.length_set]; omega) | exact List.length_pos_iff.2 (by assumption) | (have := List.length_pos_iff.2 (by assumption : a ≠ []); omega))) ?_
                rintro _ w123 ⟨cb126, rfl, o_cb126, g_cb126, hB124⟩
                have ne_cb111_cb126 : cb111 ≠ cb126 := by have := (obj_lt o_cb111); omega
                have ne_cb126_cb111 := ne_cb111_cb126.symm
                replace g_cb126 := Nat.le_trans hs g_cb126
                replace hb := hb.trans (hB124.mono hs)
                replace hs := Nat.le_trans hs (hB124.size)
                replace o_cb111 := obj_below o_cb111 hB124
                replace r_q113 := r_q113.below hB124
                refine L_mv (L_run (.slice none 0 0) (by kernel_rfl) (by kernel_rfl) (L_run (.iface 61 (.pointer (some ⟨cb126, 0, none⟩))) (by kernel_rfl) (by kernel_rfl) (L_as (L_as (L_nil (thenQ_normal (W_seq (W_seq (W_region (L_mv (L_run (.bool true) (by kernel_rfl) (by kernel_rfl) (L_mv (L_skip (by kernel_rfl) (L_skip (by kernel_rfl) (L_pickT (by kernel_rfl) (L_nil (thenQ_normal (W_true (by kernel_rfl) (W_seq (W_region (L_new (fun b => .pointer (some ⟨b, 0, none⟩)) (.cells [(.pointer none)].toArray 61 (0, 0)) (by kernel_rfl) (by kernel_rfl) ?_)))))))))))))))))))))
                intro b127 w128 hN129
                have ne_cb111_x11 : cb111 ≠ b127 := by have := (obj_lt o_cb111); have := hN129.num; omega
                have ne_x11_cb111 := ne_cb111_x11.symm
                have ne_cb126_x11 : cb126 ≠ b127 := by have := (obj_lt o_cb126); have := hN129.num; omega
                have ne_x11_cb126 := ne_cb126_x11.symm
                have g_x11 : w.heap.size ≤ b127 := by rw [hN129.num]; exact hs
                replace hb := hb.trans (hN129.below.mono hs)
                replace hs := Nat.le_trans hs (hN129.below.size)
                replace o_cb111 := obj_below o_cb111 hN129.below
                replace o_cb126 := obj_below o_cb126 hN129.below
                replace r_q113 := r_q113.below hN129.below
                have o_x11 := hN129.here
                refine L_new (fun b => .pointer (some ⟨b, 0, none⟩)) (.cells [(.pointer none)].toArray 61 (0, 0)) (by kernel_rfl) (by kernel_rfl) ?_
                intro b130 w131 hN132
                have ne_cb111_x12 : cb111 ≠ b130 := by have := (obj_lt o_cb111); have := hN132.num; omega
                have ne_x12_cb111 := ne_cb111_x12.symm
                have ne_cb126_x12 : cb126 ≠ b130 := by have := (obj_lt o_cb126); have := hN132.num; omega
                have ne_x12_cb126 := ne_cb126_x12.symm
                have ne_x11_x12 : b127 ≠ b130 := by have := (obj_lt o_x11); have := hN132.num; omega
                have ne_x12_x11 := ne_x11_x12.symm
                have g_x12 : w.heap.size ≤ b130 := by rw [hN132.num]; exact hs
                replace hb := hb.trans (hN132.below.mono hs)
                replace hs := Nat.le_trans hs (hN132.below.size)
                replace o_cb111 := obj_below o_cb111 hN132.below
                replace o_cb126 := obj_below o_cb126 hN132.below
                replace o_x11 := obj_below o_x11 hN132.below
                replace r_q113 := r_q113.below hN132.below
                have o_x12 := hN132.here
                refine L_nil (thenQ_normal (W_seq (W_region (L_as (L_nil (thenQ_normal (W_seq (W_seq (W_region (L_mv (L_run (.bool false) (by kernel_rfl) (by kernel_rfl) (L_nil (thenQ_normal (W_false (by kernel_rfl) (W_skip (thenQ_normal (W_seq (W_draws 41 (by kernel_rfl) (by kernel_rfl) (by kernel_rfl) ?_))))))))))))))))))
                intro w133 hB134
                replace hb := hb.trans (hB134.mono hs)
                replace hs := Nat.le_trans hs (hB134.size)
                replace o_cb111 := obj_below o_cb111 hB134
                replace o_cb126 := obj_below o_cb126 hB134
                replace o_x11 := obj_below o_x11 hB134
                replace o_x12 := obj_below o_x12 hB134
                replace r_q113 := r_q113.below hB134
                refine I_take 0 (.iface 61 (.pointer (some ⟨cb111, 0, none⟩))) rfl (by kernel_rfl) (by kernel_rfl) (by kernel_rfl) (by kernel_rfl) (noPanic_then (noPanic_then noPanic_end)) (by kernel_rfl) (fun _ => by kernel_rfl) ?_
                refine I_take 1 (.iface 63 (.pointer (some ⟨b127, 0, none⟩))) rfl (by kernel_rfl) (by kernel_rfl) (by kernel_rfl) (by kernel_rfl) (noPanic_then (noPanic_then noPanic_end)) (by kernel_rfl) (fun _ => by kernel_rfl) ?_
                refine I_all1 2 (by kernel_rfl) ?_
                refine I_op 2 rfl ?_ rfl
                refine L_call 32 [(.iface 61 (.pointer (some ⟨cb111, 0, none⟩))), (.iface 63 (.pointer (some ⟨b127, 0, none⟩)))] (by kernel_rfl) (by kernel_rfl) (as_fk cb111 b127 (.pointer none) _ (gcell_below hty hb) o_x11) ?_
                rintro _ w135 ⟨rfl, w136, hB137, hW138⟩
                replace hb := hb.trans (hB137.mono hs)
                replace hs := Nat.le_trans hs (hB137.size)
                replace o_cb111 := obj_below o_cb111 hB137
                replace o_cb126 := obj_below o_cb126 hB137
                replace o_x11 := obj_below o_x11 hB137
                replace o_x12 := obj_below o_x12 hB137
                replace r_q113 := r_q113.below hB137
                replace hb := hb.trans (hW138.below g_x11)
                replace hs := Nat.le_trans hs (Nat.le_of_eq hW138.size.symm)
                have n_o_cb111 := obj_wrote o_cb111 hW138 (obj_ne o_cb111 o_x11 (by simp))
                have n_o_cb126 := obj_wrote o_cb126 hW138 (obj_ne o_cb126 o_x11 (by simp))
                have n_o_x12 := obj_wrote o_x12 hW138 ne_x12_x11
                have n_r_q113 := r_q113.wrote hW138 (r_q113.ne o_x11 (by simp))
                replace o_cb111 := n_o_cb111; clear n_o_cb111
                replace o_cb126 := n_o_cb126; clear n_o_cb126
                replace o_x12 := n_o_x12; clear n_o_x12
                replace r_q113 := n_r_q113; clear n_r_q113
                replace o_x11 := hW138.here
                refine L_nil ?_
                refine ⟨rfl, ?_⟩
                refine I_take 3 (.bool true) rfl (by kernel_rfl) (by kernel_rfl) (by kernel_rfl) (by kernel_rfl) (noPanic_then (noPanic_then noPanic_end)) (by kernel_rfl) (fun _ => by kernel_rfl) ?_
                refine I_take 4 (.iface 61 (.pointer (some ⟨cb126, 0, none⟩))) rfl (by kernel_rfl) (by kernel_rfl) (by kernel_rfl) (by kernel_rfl) (noPanic_then (noPanic_then noPanic_end)) (by kernel_rfl) (fun _ => by kernel_rfl) ?_
                refine I_take 5 (.iface 63 (.pointer (some ⟨b130, 0, none⟩))) rfl (by kernel_rfl) (by kernel_rfl) (by kernel_rfl) (by kernel_rfl) (noPanic_then (noPanic_then noPanic_end)) (by kernel_rfl) (fun _ => by kernel_rfl) ?_
                refine I_all1 6 (by kernel_rfl) ?_
                refine I_opG 6 rfl ?_ (by kernel_rfl)
                refine L_call 32 [(.iface 61 (.pointer (some ⟨cb126, 0, none⟩))), (.iface 63 (.pointer (some ⟨b130, 0, none⟩)))] (by kernel_rfl) (by kernel_rfl) (as_fk cb126 b130 (.pointer none) _ (gcell_below hty hb) o_x12) ?_
                rintro _ w139 ⟨rfl, w140, hB141, hW142⟩
                replace hb := hb.trans (hB141.mono hs)
                replace hs := Nat.le_trans hs (hB141.size)
                replace o_cb111 := obj_below o_cb111 hB141
                replace o_cb126 := obj_below o_cb126 hB141
                replace o_x11 := obj_below o_x11 hB141
                replace o_x12 := obj_below o_x12 hB141
                replace r_q113 := r_q113.below hB141
                replace hb := hb.trans (hW142.below g_x12)
                replace hs := Nat.le_trans hs (Nat.le_of_eq hW142.size.symm)
                have n_o_cb111 := obj_wrote o_cb111 hW142 (obj_ne o_cb111 o_x12 (by simp))
                have n_o_cb126 := obj_wrote o_cb126 hW142 (obj_ne o_cb126 o_x12 (by simp))
                have n_o_x11 := obj_wrote o_x11 hW142 ne_x11_x12
                have n_r_q113 := r_q113.wrote hW142 (r_q113.ne o_x12 (by simp))
                replace o_cb111 := n_o_cb111; clear n_o_cb111
                replace o_cb126 := n_o_cb126; clear n_o_cb126
                replace o_x11 := n_o_x11; clear n_o_x11
                replace r_q113 := n_r_q113; clear n_r_q113
                replace o_x12 := hW142.here
                refine L_nil ?_
                refine ⟨rfl, ?_⟩
                refine I_quiet 7 (by kernel_rfl) (by kernel_rfl) (by kernel_rfl) (by kernel_rfl) ?_
                refine Lq_pickT (by kernel_rfl) (Lq_mv (Lq_want (by kernel_rfl) (Lq_load b127 0 (.pointer (some ⟨cb111, 0, none⟩)) (by kernel_rfl) (fun _ => by kernel_rfl) (cell_obj o_x11 rfl) (Lq_want (by kernel_rfl) (Lq_run (.bool true) (fun _ => by kernel_rfl) (Lq_pickT (by kernel_rfl) (Lq_mv (Lq_want (by kernel_rfl) (Lq_load b130 0 (.pointer (some ⟨cb126, 0, none⟩)) (by kernel_rfl) (fun _ => by kernel_rfl) (cell_obj o_x12 rfl) (Lq_want (by kernel_rfl) (Lq_run (.bool true) (fun _ => by kernel_rfl) (Lq_pickT (by kernel_rfl) (Lq_mv (Lq_want (by kernel_rfl) (Lq_load b130 0 (.pointer (some ⟨cb126, 0, none⟩)) (by kernel_rfl) (fun _ => by kernel_rfl) (cell_obj o_x12 rfl) (Lq_want (by kernel_rfl) (Lq_run (.pointer (some ⟨cb126, 0, none⟩)) (fun _ => by kernel_rfl) (Lq_want (by kernel_rfl) (Lq_run (.pointer (some ⟨cb126, 2, none⟩)) (fun _ => by kernel_rfl) (Lq_want (by kernel_rfl) (Lq_load cb126 2 (.int .i64 ((badL (toldF (a ++ b))).2)) (by kernel_rfl) (fun _ => by kernel_rfl) (cell_obj o_cb126 rfl) (Lq_want (by kernel_rfl) (Lq_load b127 0 (.pointer (some ⟨cb111, 0, none⟩)) (by kernel_rfl) (fun _ => by kernel_rfl) (cell_obj o_x11 rfl) (Lq_want (by kernel_rfl) (Lq_run (.pointer (some ⟨cb111, 0, none⟩)) (fun _ => by kernel_rfl) (Lq_want (by kernel_rfl) (Lq_run (.pointer (some ⟨cb111, 2, none⟩)) (fun _ => by kernel_rfl) (Lq_want (by kernel_rfl) (Lq_load cb111 2 (.int .i64 ((badL (toldF a)).2)) (by kernel_rfl) (fun _ => by kernel_rfl) (cell_obj o_cb111 rfl) (Lq_want (by kernel_rfl) (Lq_cmp .i64 ((badL (toldF (a ++ b))).2) ((badL (toldF a)).2) ((badL (toldF (a ++ b))).2 = (badL (toldF a)).2) rfl (cmp_eq ((badL (toldF (a ++ b))).2) ((badL (toldF a)).2)) (by kernel_rfl) (by kernel_rfl) ?_ ?_)))))))))))))))))))))))))))))))
                · intro h143
                  replace h143 : (badL (toldF (a ++ b))).2 = (badL (toldF a)).2 := by omega
                  refine Lq_pickT (by kernel_rfl) (Lq_mv (Lq_want (by kernel_rfl) (Lq_load b130 0 (.pointer (some ⟨cb126, 0, none⟩)) (by kernel_rfl) (fun _ => by kernel_rfl) (cell_obj o_x12 rfl) (Lq_want (by kernel_rfl) (Lq_run (.pointer (some ⟨cb126, 0, none⟩)) (fun _ => by kernel_rfl) (Lq_want (by kernel_rfl) (Lq_run (.pointer (some ⟨cb126, 1, none⟩)) (fun _ => by kernel_rfl) (Lq_want (by kernel_rfl) (Lq_load cb126 1 (.int .i64 ((badL (toldF (a ++ b))).1)) (by kernel_rfl) (fun _ => by kernel_rfl) (cell_obj o_cb126 rfl) (Lq_want (by kernel_rfl) (Lq_load b127 0 (.pointer (some ⟨cb111, 0, none⟩)) (by kernel_rfl) (fun _ => by kernel_rfl) (cell_obj o_x11 rfl) (Lq_want (by kernel_rfl) (Lq_run (.pointer (some ⟨cb111, 0, none⟩)) (fun _ => by kernel_rfl) (Lq_want (by kernel_rfl) (Lq_run (.pointer (some ⟨cb111, 1, none⟩)) (fun _ => by kernel_rfl) (Lq_want (by kernel_rfl) (Lq_load cb111 1 (.int .i64 ((badL (toldF a)).1)) (by kernel_rfl) (fun _ => by kernel_rfl) (cell_obj o_cb111 rfl) (Lq_want (by kernel_rfl) (Lq_mv (Lq_want (by kernel_rfl) (Lq_arith ((badL (toldF a)).1) 0 ((badL (toldF a)).1 + 0) rfl (by kernel_rfl) (by kernel_rfl) (wrap_i64 _ (by simp only [arithZ]; omega) (by simp only [arithZ]; omega)) (Lq_want (by kernel_rfl) (Lq_cmp .i64 ((badL (toldF (a ++ b))).1) ((badL (toldF a)).1 + 0) ((badL (toldF (a ++ b))).1 = ((badL (toldF a)).1 + 0)) rfl (cmp_eq ((badL (toldF (a ++ b))).1) ((badL (toldF a)).1 + 0)) (by kernel_rfl) (by kernel_rfl) ?_ ?_)))))))))))))))))))))))
                  · intro h144
                    replace h144 : (badL (toldF (a ++ b))).1 = ((badL (toldF a)).1 + 0) := by omega
                    refine Lq_pickT (by kernel_rfl) (Lq_as (Lq_nil ?_))
                    intro w145 hB146
                    replace hb := hb.trans (hB146.mono hs)
                    replace hs := Nat.le_trans hs (hB146.size)
                    replace o_cb111 := obj_below o_cb111 hB146
                    replace o_cb126 := obj_below o_cb126 hB146
                    replace o_x11 := obj_below o_x11 hB146
                    replace o_x12 := obj_below o_x12 hB146
                    replace r_q113 := r_q113.below hB146
                    refine thenQ_normal (W_ret (thenQ_ret ?_))
                    refine end_ret [.tmp 4] [(.bool true)] rfl rfl ⟨by kernel_rfl, trivial⟩ ?_
                    have e0 : true = true := by first | rfl | (exfalso; omega) | (simp_all; done)
                    exact ⟨congrArg Value.bool e0, hb⟩
                  · intro h147
                    replace h147 : (badL (toldF (a ++ b))).1 ≠ ((badL (toldF a)).1 + 0) := by omega
                    exfalso; first | (refine h147 ?_; rw [ap_bad1 (b := b) (by assumption) (last_of (by assumption) (by assumption)) (by omega) (by assumption)]; omega) | (refine h147 ?_; rw [(ap_bad2 (b := b) (by assumption) (last_of (by assumption) (by assumption)) (by omega) (by assumption) (by assumption)).1]; have := lines_len (by assumption : _ = linesF (toldF a)); omega)
                · intro h148
                  replace h148 : (badL (toldF (a ++ b))).2 ≠ (badL (toldF a)).2 := by omega
                  exfalso; first | exact h148 (by rw [ap_bad1 (b := b) (by assumption) (last_of (by assumption) (by assumption)) (by omega) (by assumption)]) | exact h148 (ap_bad2 (b := b) (by assumption) (last_of (by assumption) (by assumption)) (by omega) (by assumption) (by assumption)).2
            · skip
              refine L_call 30 [(S ([120] : List UInt8)), (S b)] (by kernel_rfl) (by kernel_rfl) (c_lines_Read_bad ([120] : List UInt8) b _ (by first | omega | assumption | (simp only [List.length_append]; omega) | (simp only [List.length_append, List.length_set]; omega) | exact List.length_pos_iff.2 (by assumption) | (have := List.length_pos_iff.2 (by assumption : a ≠ []); omega)) (by first | omega | assumption | (simp only [List.length_append]; omega) | (simp only [List.length_append, List.length_set]; omega) | exact List.length_pos_iff.2 (by assumption) | (have := List.length_pos_iff.2 (by assumption : a ≠ []); omega))) ?_
              rintro _ w149 ⟨cb152, rfl, o_cb152, g_cb152, hB150⟩
              have ne_cb111_cb152 : cb111 ≠ cb152 := by have := (obj_lt o_cb111); omega
              have ne_cb152_cb111 := ne_cb111_cb152.symm
              replace g_cb152 := Nat.le_trans hs g_cb152
              replace hb := hb.trans (hB150.mono hs)
              replace hs := Nat.le_trans hs (hB150.size)
              replace o_cb111 := obj_below o_cb111 hB150
              refine L_mv (L_run (.slice none 0 0) (by kernel_rfl) (by kernel_rfl) (L_run (.iface 61 (.pointer (some ⟨cb152, 0, none⟩))) (by kernel_rfl) (by kernel_rfl) (L_as (L_as (L_nil (thenQ_normal (W_seq (W_region (L_mv (L_mv (L_sadd a b (by first | omega | (simp only [List.length_append, List.length_cons, List.length_nil]; omega) | (simp only [bytesI, List.length_map, List.length_append, List.length_cons, List.length_nil]; omega)) (by kernel_rfl) (by kernel_rfl) ?_)))))))))))
              by_cases hq153 : (badL (toldF (a ++ b))).2 = 0
              · skip
                exfalso; exact hq16 (by rw [← ap_bad1 (b := b) (by assumption) (last_of (by assumption) (by assumption)) (by omega) hq16]; exact hq153)
              · skip
                refine L_call 30 [(S ([120] : List UInt8)), (S (a ++ b))] (by kernel_rfl) (by kernel_rfl) (c_lines_Read_bad ([120] : List UInt8) (a ++ b) _ (by first | omega | assumption | (simp only [List.length_append]; omega) | (simp only [List.length_append, List.length_set]; omega) | exact List.length_pos_iff.2 (by assumption) | (have := List.length_pos_iff.2 (by assumption : a ≠ []); omega)) (by first | omega | assumption | (simp only [List.length_append]; omega) | (simp only [List.length_append, List.length_set]; omega) | exact List.length_pos_iff.2 (by assumption) | (have := List.length_pos_iff.2 (by assumption : a ≠ []); omega))) ?_
                rintro _ w154 ⟨cb157, rfl, o_cb157, g_cb157, hB155⟩
                have ne_cb111_cb157 : cb111 ≠ cb157 := by have := (obj_lt o_cb111); omega
                have ne_cb157_cb111 := ne_cb111_cb157.symm
                have ne_cb152_cb157 : cb152 ≠ cb157 := by have := (obj_lt o_cb152); omega
                have ne_cb157_cb152 := ne_cb152_cb157.symm
                replace g_cb157 := Nat.le_trans hs g_cb157
                replace hb := hb.trans (hB155.mono hs)
                replace hs := Nat.le_trans hs (hB155.size)
                replace o_cb111 := obj_below o_cb111 hB155
                replace o_cb152 := obj_below o_cb152 hB155
                refine L_mv (L_run (.slice none 0 0) (by kernel_rfl) (by kernel_rfl) (L_run (.iface 61 (.pointer (some ⟨cb157, 0, none⟩))) (by kernel_rfl) (by kernel_rfl) (L_as (L_as (L_nil (thenQ_normal (W_seq (W_seq (W_region (L_mv (L_run (.bool true) (by kernel_rfl) (by kernel_rfl) (L_mv (L_skip (by kernel_rfl) (L_skip (by kernel_rfl) (L_pickT (by kernel_rfl) (L_nil (thenQ_normal (W_true (by kernel_rfl) (W_seq (W_region (L_new (fun b => .pointer (some ⟨b, 0, none⟩)) (.cells [(.pointer none)].toArray 61 (0, 0)) (by kernel_rfl) (by kernel_rfl) ?_)))))))))))))))))))))
                intro b158 w159 hN160
                have ne_cb111_x11 : cb111 ≠ b158 := by have := (obj_lt o_cb111); have := hN160.num; omega
                have ne_x11_cb111 := ne_cb111_x11.symm
                have ne_cb152_x11 : cb152 ≠ b158 := by have := (obj_lt o_cb152); have := hN160.num; omega
                have ne_x11_cb152 := ne_cb152_x11.symm
                have ne_cb157_x11 : cb157 ≠ b158 := by have := (obj_lt o_cb157); have := hN160.num; omega
                have ne_x11_cb157 := ne_cb157_x11.symm
                have g_x11 : w.heap.size ≤ b158 := by rw [hN160.num]; exact hs
                replace hb := hb.trans (hN160.below.mono hs)
                replace hs := Nat.le_trans hs (hN160.below.size)
                replace o_cb111 := obj_below o_cb111 hN160.below
                replace o_cb152 := obj_below o_cb152 hN160.below
                replace o_cb157 := obj_below o_cb157 hN160.below
                have o_x11 := hN160.here
                refine L_new (fun b => .pointer (some ⟨b, 0, none⟩)) (.cells [(.pointer none)].toArray 61 (0, 0)) (by kernel_rfl) (by kernel_rfl) ?_
                intro b161 w162 hN163
                have ne_cb111_x12 : cb111 ≠ b161 := by have := (obj_lt o_cb111); have := hN163.num; omega
                have ne_x12_cb111 := ne_cb111_x12.symm
                have ne_cb152_x12 : cb152 ≠ b161 := by have := (obj_lt o_cb152); have := hN163.num; omega
                have ne_x12_cb152 := ne_cb152_x12.symm
                have ne_cb157_x12 : cb157 ≠ b161 := by have := (obj_lt o_cb157); have := hN163.num; omega
                have ne_x12_cb157 := ne_cb157_x12.symm
                have ne_x11_x12 : b158 ≠ b161 := by have := (obj_lt o_x11); have := hN163.num; omega
                have ne_x12_x11 := ne_x11_x12.symm
                have g_x12 : w.heap.size ≤ b161 := by rw [hN163.num]; exact hs
                replace hb := hb.trans (hN163.below.mono hs)
                replace hs := Nat.le_trans hs (hN163.below.size)
                replace o_cb111 := obj_below o_cb111 hN163.below
                replace o_cb152 := obj_below o_cb152 hN163.below
                replace o_cb157 := obj_below o_cb157 hN163.below
                replace o_x11 := obj_below o_x11 hN163.below
                have o_x12 := hN163.here
                refine L_nil (thenQ_normal (W_seq (W_region (L_as (L_nil (thenQ_normal (W_seq (W_seq (W_region (L_mv (L_run (.bool false) (by kernel_rfl) (by kernel_rfl) (L_nil (thenQ_normal (W_false (by kernel_rfl) (W_skip (thenQ_normal (W_seq (W_draws 41 (by kernel_rfl) (by kernel_rfl) (by kernel_rfl) ?_))))))))))))))))))
                intro w164 hB165
                replace hb := hb.trans (hB165.mono hs)
                replace hs := Nat.le_trans hs (hB165.size)
                replace o_cb111 := obj_below o_cb111 hB165
                replace o_cb152 := obj_below o_cb152 hB165
                replace o_cb157 := obj_below o_cb157 hB165
                replace o_x11 := obj_below o_x11 hB165
                replace o_x12 := obj_below o_x12 hB165
                refine I_take 0 (.iface 61 (.pointer (some ⟨cb111, 0, none⟩))) rfl (by kernel_rfl) (by kernel_rfl) (by kernel_rfl) (by kernel_rfl) (noPanic_then (noPanic_then noPanic_end)) (by kernel_rfl) (fun _ => by kernel_rfl) ?_
                refine I_take 1 (.iface 63 (.pointer (some ⟨b158, 0, none⟩))) rfl (by kernel_rfl) (by kernel_rfl) (by kernel_rfl) (by kernel_rfl) (noPanic_then (noPanic_then noPanic_end)) (by kernel_rfl) (fun _ => by kernel_rfl) ?_
                refine I_all1 2 (by kernel_rfl) ?_
                refine I_op 2 rfl ?_ rfl
                refine L_call 32 [(.iface 61 (.pointer (some ⟨cb111, 0, none⟩))), (.iface 63 (.pointer (some ⟨b158, 0, none⟩)))] (by kernel_rfl) (by kernel_rfl) (as_fk cb111 b158 (.pointer none) _ (gcell_below hty hb) o_x11) ?_
                rintro _ w166 ⟨rfl, w167, hB168, hW169⟩
                replace hb := hb.trans (hB168.mono hs)
                replace hs := Nat.le_trans hs (hB168.size)
                replace o_cb111 := obj_below o_cb111 hB168
                replace o_cb152 := obj_below o_cb152 hB168
                replace o_cb157 := obj_below o_cb157 hB168
                replace o_x11 := obj_below o_x11 hB168
                replace o_x12 := obj_below o_x12 hB168
                replace hb := hb.trans (hW169.below g_x11)
                replace hs := Nat.le_trans hs (Nat.le_of_eq hW169.size.symm)
                have n_o_cb111 := obj_wrote o_cb111 hW169 (obj_ne o_cb111 o_x11 (by simp))
                have n_o_cb152 := obj_wrote o_cb152 hW169 (obj_ne o_cb152 o_x11 (by simp))
                have n_o_cb157 := obj_wrote o_cb157 hW169 (obj_ne o_cb157 o_x11 (by simp))
                have n_o_x12 := obj_wrote o_x12 hW169 ne_x12_x11
                replace o_cb111 := n_o_cb111; clear n_o_cb111
                replace o_cb152 := n_o_cb152; clear n_o_cb152
                replace o_cb157 := n_o_cb157; clear n_o_cb157
                replace o_x12 := n_o_x12; clear n_o_x12
                replace o_x11 := hW169.here
                refine L_nil ?_
                refine ⟨rfl, ?_⟩
                refine I_take 3 (.bool true) rfl (by kernel_rfl) (by kernel_rfl) (by kernel_rfl) (by kernel_rfl) (noPanic_then (noPanic_then noPanic_end)) (by kernel_rfl) (fun _ => by kernel_rfl) ?_
                refine I_take 4 (.iface 61 (.pointer (some ⟨cb157, 0, none⟩))) rfl (by kernel_rfl) (by kernel_rfl) (by kernel_rfl) (by kernel_rfl) (noPanic_then (noPanic_then noPanic_end)) (by kernel_rfl) (fun _ => by kernel_rfl) ?_
                refine I_take 5 (.iface 63 (.pointer (some ⟨b161, 0, none⟩))) rfl (by kernel_rfl) (by kernel_rfl) (by kernel_rfl) (by kernel_rfl) (noPanic_then (noPanic_then noPanic_end)) (by kernel_rfl) (fun _ => by kernel_rfl) ?_
                refine I_all1 6 (by kernel_rfl) ?_
                refine I_opG 6 rfl ?_ (by kernel_rfl)
                refine L_call 32 [(.iface 61 (.pointer (some ⟨cb157, 0, none⟩))), (.iface 63 (.pointer (some ⟨b161, 0, none⟩)))] (by kernel_rfl) (by kernel_rfl) (as_fk cb157 b161 (.pointer none) _ (gcell_below hty hb) o_x12) ?_
                rintro _ w170 ⟨rfl, w171, hB172, hW173⟩
                replace hb := hb.trans (hB172.mono hs)
                replace hs := Nat.le_trans hs (hB172.size)
                replace o_cb111 := obj_below o_cb111 hB172
                replace o_cb152 := obj_below o_cb152 hB172
                replace o_cb157 := obj_below o_cb157 hB172
                replace o_x11 := obj_below o_x11 hB172
                replace o_x12 := obj_below o_x12 hB172
                replace hb := hb.trans (hW173.below g_x12)
                replace hs := Nat.le_trans hs (Nat.le_of_eq hW173.size.symm)
                have n_o_cb111 := obj_wrote o_cb111 hW173 (obj_ne o_cb111 o_x12 (by simp))
                have n_o_cb152 := obj_wrote o_cb152 hW173 (obj_ne o_cb152 o_x12 (by simp))
                have n_o_cb157 := obj_wrote o_cb157 hW173 (obj_ne o_cb157 o_x12 (by simp))
                have n_o_x11 := obj_wrote o_x11 hW173 ne_x11_x12
                replace o_cb111 := n_o_cb111; clear n_o_cb111
                replace o_cb152 := n_o_cb152; clear n_o_cb152
                replace o_cb157 := n_o_cb157; clear n_o_cb157
                replace o_x11 := n_o_x11; clear n_o_x11
                replace o_x12 := hW173.here
                refine L_nil ?_
                refine ⟨rfl, ?_⟩
                refine I_quiet 7 (by kernel_rfl) (by kernel_rfl) (by kernel_rfl) (by kernel_rfl) ?_
                refine Lq_pickT (by kernel_rfl) (Lq_mv (Lq_want (by kernel_rfl) (Lq_load b158 0 (.pointer (some ⟨cb111, 0, none⟩)) (by kernel_rfl) (fun _ => by kernel_rfl) (cell_obj o_x11 rfl) (Lq_want (by kernel_rfl) (Lq_run (.bool true) (fun _ => by kernel_rfl) (Lq_pickT (by kernel_rfl) (Lq_mv (Lq_want (by kernel_rfl) (Lq_load b161 0 (.pointer (some ⟨cb157, 0, none⟩)) (by kernel_rfl) (fun _ => by kernel_rfl) (cell_obj o_x12 rfl) (Lq_want (by kernel_rfl) (Lq_run (.bool true) (fun _ => by kernel_rfl) (Lq_pickT (by kernel_rfl) (Lq_mv (Lq_want (by kernel_rfl) (Lq_load b161 0 (.pointer (some ⟨cb157, 0, none⟩)) (by kernel_rfl) (fun _ => by kernel_rfl) (cell_obj o_x12 rfl) (Lq_want (by kernel_rfl) (Lq_run (.pointer (some ⟨cb157, 0, none⟩)) (fun _ => by kernel_rfl) (Lq_want (by kernel_rfl) (Lq_run (.pointer (some ⟨cb157, 2, none⟩)) (fun _ => by kernel_rfl) (Lq_want (by kernel_rfl) (Lq_load cb157 2 (.int .i64 ((badL (toldF (a ++ b))).2)) (by kernel_rfl) (fun _ => by kernel_rfl) (cell_obj o_cb157 rfl) (Lq_want (by kernel_rfl) (Lq_load b158 0 (.pointer (some ⟨cb111, 0, none⟩)) (by kernel_rfl) (fun _ => by kernel_rfl) (cell_obj o_x11 rfl) (Lq_want (by kernel_rfl) (Lq_run (.pointer (some ⟨cb111, 0, none⟩)) (fun _ => by kernel_rfl) (Lq_want (by kernel_rfl) (Lq_run (.pointer (some ⟨cb111, 2, none⟩)) (fun _ => by kernel_rfl) (Lq_want (by kernel_rfl) (Lq_load cb111 2 (.int .i64 ((badL (toldF a)).2)) (by kernel_rfl) (fun _ => by kernel_rfl) (cell_obj o_cb111 rfl) (Lq_want (by kernel_rfl) (Lq_cmp .i64 ((badL (toldF (a ++ b))).2) ((badL (toldF a)).2) ((badL (toldF (a ++ b))).2 = (badL (toldF a)).2) rfl (cmp_eq ((badL (toldF (a ++ b))).2) ((badL (toldF a)).2)) (by kernel_rfl) (by kernel_rfl) ?_ ?_)))))))))))))))))))))))))))))))
                · intro h174
                  replace h174 : (badL (toldF (a ++ b))).2 = (badL (toldF a)).2 := by omega
                  refine Lq_pickT (by kernel_rfl) (Lq_mv (Lq_want (by kernel_rfl) (Lq_load b161 0 (.pointer (some ⟨cb157, 0, none⟩)) (by kernel_rfl) (fun _ => by kernel_rfl) (cell_obj o_x12 rfl) (Lq_want (by kernel_rfl) (Lq_run (.pointer (some ⟨cb157, 0, none⟩)) (fun _ => by kernel_rfl) (Lq_want (by kernel_rfl) (Lq_run (.pointer (some ⟨cb157, 1, none⟩)) (fun _ => by kernel_rfl) (Lq_want (by kernel_rfl) (Lq_load cb157 1 (.int .i64 ((badL (toldF (a ++ b))).1)) (by kernel_rfl) (fun _ => by kernel_rfl) (cell_obj o_cb157 rfl) (Lq_want (by kernel_rfl) (Lq_load b158 0 (.pointer (some ⟨cb111, 0, none⟩)) (by kernel_rfl) (fun _ => by kernel_rfl) (cell_obj o_x11 rfl) (Lq_want (by kernel_rfl) (Lq_run (.pointer (some ⟨cb111, 0, none⟩)) (fun _ => by kernel_rfl) (Lq_want (by kernel_rfl) (Lq_run (.pointer (some ⟨cb111, 1, none⟩)) (fun _ => by kernel_rfl) (Lq_want (by kernel_rfl) (Lq_load cb111 1 (.int .i64 ((badL (toldF a)).1)) (by kernel_rfl) (fun _ => by kernel_rfl) (cell_obj o_cb111 rfl) (Lq_want (by kernel_rfl) (Lq_mv (Lq_want (by kernel_rfl) (Lq_arith ((badL (toldF a)).1) 0 ((badL (toldF a)).1 + 0) rfl (by kernel_rfl) (by kernel_rfl) (wrap_i64 _ (by simp only [arithZ]; omega) (by simp only [arithZ]; omega)) (Lq_want (by kernel_rfl) (Lq_cmp .i64 ((badL (toldF (a ++ b))).1) ((badL (toldF a)).1 + 0) ((badL (toldF (a ++ b))).1 = ((badL (toldF a)).1 + 0)) rfl (cmp_eq ((badL (toldF (a ++ b))).1) ((badL (toldF a)).1 + 0)) (by kernel_rfl) (by kernel_rfl) ?_ ?_)))))))))))))))))))))))
                  · intro h175
                    replace h175 : (badL (toldF (a ++ b))).1 = ((badL (toldF a)).1 + 0) := by omega
                    refine Lq_pickT (by kernel_rfl) (Lq_as (Lq_nil ?_))
                    intro w176 hB177
                    replace hb := hb.trans (hB177.mono hs)
                    replace hs := Nat.le_trans hs (hB177.size)
                    replace o_cb111 := obj_below o_cb111 hB177
                    replace o_cb152 := obj_below o_cb152 hB177
                    replace o_cb157 := obj_below o_cb157 hB177
                    replace o_x11 := obj_below o_x11 hB177
                    replace o_x12 := obj_below o_x12 hB177
                    refine thenQ_normal (W_ret (thenQ_ret ?_))
                    refine end_ret [.tmp 4] [(.bool true)] rfl rfl ⟨by kernel_rfl, trivial⟩ ?_
                    have e0 : true = true := by first | rfl | (exfalso; omega) | (simp_all; done)
                    exact ⟨congrArg Value.bool e0, hb⟩
                  · intro h178
                    replace h178 : (badL (toldF (a ++ b))).1 ≠ ((badL (toldF a)).1 + 0) := by omega
                    exfalso; first | (refine h178 ?_; rw [ap_bad1 (b := b) (by assumption) (last_of (by assumption) (by assumption)) (by omega) (by assumption)]; omega) | (refine h178 ?_; rw [(ap_bad2 (b := b) (by assumption) (last_of (by assumption) (by assumption)) (by omega) (by assumption) (by assumption)).1]; have := lines_len (by assumption : _ = linesF (toldF a)); omega)
                · intro h179
                  replace h179 : (badL (toldF (a ++ b))).2 ≠ (badL (toldF a)).2 := by omega
                  exfalso; first | exact h179 (by rw [ap_bad1 (b := b) (by assumption) (last_of (by assumption) (by assumption)) (by omega) (by assumption)]) | exact h179 (ap_bad2 (b := b) (by assumption) (last_of (by assumption) (by assumption)) (by omega) (by assumption) (by assumption)).2
  · intro h180
    refine L_mv (L_skip (by kernel_rfl) (L_skip (by kernel_rfl) (L_skip (by kernel_rfl) (L_skip (by kernel_rfl) (L_skip (by kernel_rfl) (L_skip (by kernel_rfl) (L_pickF (by kernel_rfl) (L_mv (L_want (by kernel_rfl) (L_mv (L_want (by kernel_rfl) (L_call 34 [(S b)] (by kernel_rfl) (by kernel_rfl) (c_furrowref03_Marked b _ (by first | omega | assumption | (simp only [List.length_append]; omega) | (simp only [List.length_append, List.length_set]; omega) | exact List.length_pos_iff.2 (by assumption) | (have := List.length_pos_iff.2 (by assumption : a ≠ []); omega))) ?_))))))))))))
    rintro _ w181 ⟨rfl, hB182⟩
    replace hb := hb.trans (hB182.mono hs)
    replace hs := Nat.le_trans hs (hB182.size)
    have := mark_len b
    refine L_want (by kernel_rfl) (L_cmp .i64 ((markN b : Nat) : Int) ((0 : Nat) : Int) (0 < markN b) rfl (cmpN_gt (markN b) 0) (by kernel_rfl) (by kernel_rfl) ?_ ?_)
    · intro h184
      replace h184 : 0 < markN b := by omega
      refine L_pickF (by kernel_rfl) (L_mv (L_skip (by kernel_rfl) (L_skip (by kernel_rfl) (L_pickT (by kernel_rfl) (L_nil (thenQ_normal (W_true (by kernel_rfl) (W_seq (W_region (L_as (L_nil (thenQ_normal (W_ret (thenQ_ret ?_))))))))))))))
      refine end_ret [.tmp 4] [(.bool true)] rfl rfl ⟨by kernel_rfl, trivial⟩ ?_
      have e0 : true = true := by first | rfl | (exfalso; omega) | (simp_all; done)
      exact ⟨congrArg Value.bool e0, hb⟩
    · intro h185
      replace h185 : markN b ≤ 0 := by omega
      refine L_pickF (by kernel_rfl) (L_mv (L_want (by kernel_rfl) (L_mv (L_want (by kernel_rfl) (L_seq a ([] : List UInt8) rfl (by kernel_rfl) (by kernel_rfl) ?_ ?_)))))
      · intro h186
        refine L_pickF (by kernel_rfl) (L_nil (thenQ_normal (W_true (by kernel_rfl) (W_seq (W_region (L_as (L_nil (thenQ_normal (W_ret (thenQ_ret ?_))))))))))
        refine end_ret [.tmp 4] [(.bool true)] rfl rfl ⟨by kernel_rfl, trivial⟩ ?_
        have e0 : true = true := by first | rfl | (exfalso; omega) | (simp_all; done)
        exact ⟨congrArg Value.bool e0, hb⟩
      · intro h187
        exact absurd h180 h187

end Go.Proofs.YtapndpldphflcaaDoor
