/- Walks, written by my program walk.py out of the specification lprint.py: each theorem says what one function returns and that it leaves memory as it was. -/
import Derived.Test.YtapndpldphflcaaDoorPLprt
import Derived.Test.YtapndpldphflcaaDoorWllines
import Derived.Test.YtapndpldphflcaaDoorWlscan
import Derived.Test.YtapndpldphflcaaDoorWlread
import Derived.Test.YtapndpldphflcaaDoorWlawake
import Derived.Test.YtapndpldphflcaaDoorWlref
import Derived.Test.YtapndpldphflcaaDoorWllaw
import Derived.Test.YtapndpldphflcaaDoorFKu
import Derived.Test.YtapndpldphflcaaDoorProg
import Derived.Tactics2
namespace Go.Proofs.YtapndpldphflcaaDoor
open Go Go.RowKit Go.FK
set_option linter.unusedVariables false
set_option linter.unusedSimpArgs false


theorem c_strings_Join (v_l : Value) (l : List (List UInt8)) (sep : List UInt8) (w : World) (p_l : Rd w encStr v_l l) (hcap : CapOk v_l) (hl : l.length ≤ 1073741824) (hj : (Lib.join l sep).length ≤ 1073741824) :
    Calls Tryd.prog 60 #[v_l, (S sep)] w (Ret fun v w' => v = (S (Lib.join l sep)) ∧ Below w.heap.size w w') :=
  joinRd_contract (fun a c sep w => Tryd.strings_Join_none a c sep w) (fun bk o c xs sep w h1 h2 h3 h4 h5 => Tryd.strings_Join bk o c xs sep w h1 h2 h3 h4 h5) v_l l sep w p_l hcap hl hj

set_option maxHeartbeats 4000000 in
set_option maxRecDepth 100000 in
theorem c_equal_str (v_a : Value) (a : List (List UInt8)) (v_b : Value) (b : List (List UInt8)) (w : World) (p_a : Rd w encStr v_a a) (p_b : Rd w encStr v_b b) (ha : a.length ≤ 1073741824) (hb_ : b.length ≤ 1073741824) :
    Calls Tryd.prog 61 #[v_a, v_b] w (Ret fun v w' => v = (.bool (decide (a = b))) ∧ Below w.heap.size w w') := by
  refine enter (args := [v_a, v_b]) Tryd.func61 rfl (by kernel_rfl : _ = 26) (by kernel_rfl) ?_
  have hb := Below.refl w.heap.size w
  have hs : w.heap.size ≤ w.heap.size := Nat.le_refl _
  have in_p_a := p_a
  have in_p_b := p_b
  refine W_seq (W_region (L_as (L_nil (thenQ_normal (W_seq (W_seq (W_region (L_mv (L_len 40 9 (a).length v_a rfl Tryd.underlying40 (p_a).len (by kernel_rfl) (L_mv (L_len 40 9 (b).length v_b rfl Tryd.underlying40 (p_b).len (by kernel_rfl) (L_cmp .i64 (((a).length : Nat) : Int) (((b).length : Nat) : Int) ((a).length ≠ (b).length) rfl (cmpN_ne ((a).length) ((b).length)) (by kernel_rfl) (by kernel_rfl) ?_ ?_))))))))))))
  · intro h1
    replace h1 : (a).length ≠ (b).length := by omega
    refine L_nil (thenQ_normal (W_true (by kernel_rfl) (W_seq (W_region (L_as (L_nil (thenQ_normal (W_ret (thenQ_ret ?_)))))))))
    refine end_ret [.tmp 4] [(.bool false)] rfl rfl ⟨by kernel_rfl, trivial⟩ ?_
    have e0 : false = decide (a = b) := by first | exact (decide_eq_true (take_all i3 i2 (by omega))).symm | exact (decide_eq_false (ne_len (by omega))).symm | exact (decide_eq_false (ne_at (by assumption) (by assumption) (by assumption))).symm
    exact ⟨congrArg Value.bool e0, hb⟩
  · intro h2
    replace h2 : (a).length = (b).length := by omega
    refine L_nil (thenQ_normal (W_false (by kernel_rfl) (W_skip (thenQ_normal (W_seq (W_seq (W_region (L_mv (L_len 40 9 (a).length v_a rfl Tryd.underlying40 (p_a).len (by kernel_rfl) (L_mv (L_nil (thenQ_normal (W_block ?_)))))))))))))
    refine W_loop (fun m s0 w0 => ∃ (i : Nat), (m = a.length - i) ∧ (s0.ds = []) ∧ (s0.f 0 = v_a) ∧ (s0.f 1 = v_b) ∧ (s0.f 12 = (.int .i64 (((a).length : Nat) : Int))) ∧ (s0.f 13 = (.int .i64 ((i : Nat) : Int))) ∧ (Rd w0 encStr v_a a) ∧ (Rd w0 encStr v_b b) ∧ (Below w.heap.size w w0) ∧ (w.heap.size ≤ w0.heap.size) ∧ (i ≤ a.length) ∧ (a.length = b.length) ∧ (a.take i = b.take i)) _ ⟨0, rfl, by kernel_rfl, by kernel_rfl, by kernel_rfl, by kernel_rfl, by kernel_rfl, p_a, p_b, hb, hs, by omega, (by omega), rfl⟩ ?_
    rintro m3 s4 w5 ⟨i, hm, hds, f_0, f_1, f_12, f_13, p_a, p_b, hb, hs, i1, i2, i3⟩
    refine W_set 0 _ f_0 (W_set 1 _ f_1 (W_set 12 _ f_12 (W_set 13 _ f_13 ?_)))
    clear f_0 f_1 f_12 f_13
    refine W_seq (W_region (L_cmp .i64 ((i : Nat) : Int) (((a).length : Nat) : Int) (i < (a).length) rfl (cmpN_lt i ((a).length)) (by kernel_rfl) (by kernel_rfl) ?_ ?_))
    · intro h6
      replace h6 : i < (a).length := by omega
      refine L_nil (thenQ_normal (W_seq (W_true (by kernel_rfl) (W_skip (thenQ_normal (W_seq (W_block (W_seq (W_region (L_mv (L_as (L_nil (thenQ_normal (W_seq (W_quiet (by kernel_rfl) (by kernel_rfl) (Lq_mv (Lq_mv ?_)))))))))))))))))
      have hz := get_some a i (by omega); obtain ⟨x7, hx8⟩ := hz
      have hz := (p_a).at (k := 1) (fun _ => rfl) hx8
      obtain ⟨g9, off10, hl11, hc12⟩ := hz
      refine Lq_ixaddr (k := .i64) v_a i _ g9 off10 el40 hl11 (by omega) (by kernel_rfl) (by kernel_rfl) (Lq_load g9 (off10 + i * 1) (S x7) (by kernel_rfl) (fun _ => by kernel_rfl) (hc12 0 _ rfl) (Lq_mv (Lq_mv ?_)))
      have hz := get_some b i (by omega); obtain ⟨x13, hx14⟩ := hz
      have hz := (p_b).at (k := 1) (fun _ => rfl) hx14
      obtain ⟨g15, off16, hl17, hc18⟩ := hz
      refine Lq_ixaddr (k := .i64) v_b i _ g15 off16 el40 hl17 (by omega) (by kernel_rfl) (by kernel_rfl) (Lq_load g15 (off16 + i * 1) (S x13) (by kernel_rfl) (fun _ => by kernel_rfl) (hc18 0 _ rfl) (Lq_sne x7 x13 rfl (by kernel_rfl) (by kernel_rfl) ?_ ?_))
      · intro h19
        refine Lq_nil ?_
        intro w20 hB21
        replace hb := hb.trans (hB21.mono hs)
        replace hs := Nat.le_trans hs (hB21.size)
        replace p_a := p_a.below hB21
        replace p_b := p_b.below hB21
        refine thenQ_normal (W_true (by kernel_rfl) (W_seq (W_region (L_as (L_nil (thenQ_normal (W_ret (blkQ_ret (thenQ_ret (thenQ_ret (blkQ_ret (thenQ_ret ?_))))))))))))
        refine end_ret [.tmp 4] [(.bool false)] rfl hds ⟨by kernel_rfl, trivial⟩ ?_
        have e0 : false = decide (a = b) := by first | exact (decide_eq_true (take_all i3 i2 (by omega))).symm | exact (decide_eq_false (ne_len (by omega))).symm | exact (decide_eq_false (ne_at (by assumption) (by assumption) (by assumption))).symm
        exact ⟨congrArg Value.bool e0, hb⟩
      · intro h22
        refine Lq_nil ?_
        intro w23 hB24
        replace hb := hb.trans (hB24.mono hs)
        replace hs := Nat.le_trans hs (hB24.size)
        replace p_a := p_a.below hB24
        replace p_b := p_b.below hB24
        refine thenQ_normal (W_false (by kernel_rfl) (W_skip (blkQ_normal (thenQ_normal (W_region (L_addN i 1 (by omega) (by kernel_rfl) (by kernel_rfl) (L_mv (L_nil ?_))))))))
        refine thenQ_normal ⟨_, ?_, (i + 1), rfl, hds, by kernel_rfl, by kernel_rfl, by kernel_rfl, by kernel_rfl, p_a, p_b, hb, hs, ?_, ?_, ?_⟩
        · omega
        · omega
        · exact i2
        · exact take_same i3 (by assumption) (by assumption) (by assumption)
    · intro h25
      replace h25 : (a).length ≤ i := by omega
      refine L_nil (thenQ_normal (W_seq (W_false (by kernel_rfl) (W_exit (thenQ_exit (thenQ_exit (blkQ_exit (thenQ_normal (W_seq (W_region (L_as (L_nil (thenQ_normal (W_ret ?_))))))))))))))
      refine end_ret [.tmp 4] [(.bool true)] rfl hds ⟨by kernel_rfl, trivial⟩ ?_
      have e0 : true = decide (a = b) := by first | exact (decide_eq_true (take_all i3 i2 (by omega))).symm | exact (decide_eq_false (ne_len (by omega))).symm | exact (decide_eq_false (ne_at (by assumption) (by assumption) (by assumption))).symm
      exact ⟨congrArg Value.bool e0, hb⟩

set_option maxHeartbeats 4000000 in
set_option maxRecDepth 100000 in
theorem c_lines_Print (no : Int) (k : Int) (m : List UInt8) (v_f : Value) (f : List (List UInt8)) (t : List UInt8) (w : World) (p_f : Rd w encStr v_f f) (hj : (joinF f).length + m.length + t.length ≤ 1000000000) (hk : 0 ≤ k ∧ k ≤ 255) (hfl : f.length ≤ 1073741824) (hcap : CapOk v_f) :
    Calls Tryd.prog 41 #[(Value.agg #[(.int .i64 no), (.int .u8 k), (S m), v_f, (S t)])] w (Ret fun v w' => v = (.tuple #[(S ((printF (no, k, m, f, t)).1)), (.int .i64 ((printF (no, k, m, f, t)).2))]) ∧ Below w.heap.size w w') := by
  refine enter (args := [(Value.agg #[(.int .i64 no), (.int .u8 k), (S m), v_f, (S t)])]) Tryd.func41 rfl (by kernel_rfl : _ = 89) (by kernel_rfl) ?_
  have hb := Below.refl w.heap.size w
  have hs : w.heap.size ≤ w.heap.size := Nat.le_refl _
  have in_p_f := p_f
  have hj0 : (joinF f).length ≤ 1073741824 := (by omega)
  have hj1 : (Lib.join f [59, 32]).length = (joinF f).length := rfl
  have hjt := tail_len (f := f)
  refine W_seq (W_region (L_new (fun b => .pointer (some ⟨b, 0, none⟩)) (.cells [(.int .i64 no), (.int .u8 k), (S m), v_f, (S t)].toArray 47 (0, 0)) (by kernel_rfl) (by kernel_rfl) ?_))
  intro b1 w2 hN3
  have g_x1 : w.heap.size ≤ b1 := by rw [hN3.num]; exact hs
  replace hb := hb.trans (hN3.below.mono hs)
  replace hs := Nat.le_trans hs (hN3.below.size)
  replace p_f := p_f.below hN3.below
  have o_x1 := hN3.here
  refine L_as (L_as (L_nil (thenQ_normal (W_seq (W_region (L_as (L_nil (thenQ_normal (W_seq (W_region (L_run (.pointer (some ⟨b1, 3, none⟩)) (by kernel_rfl) (by kernel_rfl) (L_load b1 3 v_f (by kernel_rfl) (by kernel_rfl) (cell_obj o_x1 rfl) (L_call 60 [v_f, (S ([59, 32] : List UInt8))] (by kernel_rfl) (by kernel_rfl) (c_strings_Join v_f f ([59, 32] : List UInt8) _ p_f (by assumption) (by omega) (by first | exact hj0 | omega)) ?_)))))))))))))
  rintro _ w4 ⟨rfl, hB5⟩
  replace hb := hb.trans (hB5.mono hs)
  replace hs := Nat.le_trans hs (hB5.size)
  replace o_x1 := obj_below o_x1 hB5
  replace p_f := p_f.below hB5
  refine L_as (L_nil (thenQ_normal ?_))
  refine W_cut (fun s0 w0 => ∃ (lst : List UInt8), (s0.ds = []) ∧ (s0.f 1 = (.pointer (some ⟨b1, 0, none⟩))) ∧ (s0.f 2 = (S ([] : List UInt8))) ∧ (s0.f 3 = (.int .i64 0)) ∧ (s0.f 4 = (S ([] : List UInt8))) ∧ (s0.f 5 = (S lst)) ∧ (Rd w0 encStr v_f f) ∧ (w0.heap[b1]? = some (.cells [(.int .i64 no), (.int .u8 k), (S m), v_f, (S t)].toArray 47 (0, 0))) ∧ (Below w.heap.size w w0) ∧ (w.heap.size ≤ w0.heap.size) ∧ (lst = tailF f)) ?_ ?_
  · refine W_seq (W_region (L_run (.pointer (some ⟨b1, 3, none⟩)) (by kernel_rfl) (by kernel_rfl) (L_load b1 3 v_f (by kernel_rfl) (by kernel_rfl) (cell_obj o_x1 rfl) (L_len 40 9 (f).length v_f rfl Tryd.underlying40 (p_f).len (by kernel_rfl) (L_cmp .i64 (((f).length : Nat) : Int) ((0 : Nat) : Int) (0 < (f).length) rfl (cmpN_gt ((f).length) 0) (by kernel_rfl) (by kernel_rfl) ?_ ?_)))))
    · intro h7
      replace h7 : 0 < (f).length := by omega
      refine L_nil (thenQ_normal (W_true (by kernel_rfl) (W_region (L_mv (L_sadd ([32] : List UInt8) (Lib.join f ([59, 32] : List UInt8)) (by first | omega | (simp only [List.length_append, List.length_cons, List.length_nil]; omega) | (simp only [bytesI, List.length_map, List.length_append, List.length_cons, List.length_nil]; omega)) (by kernel_rfl) (by kernel_rfl) (L_as (L_nil ?_)))))))
      refine thenQ_normal ⟨(([32] : List UInt8) ++ Lib.join f ([59, 32] : List UInt8)), rfl, by kernel_rfl, by kernel_rfl, by kernel_rfl, by kernel_rfl, by kernel_rfl, p_f, o_x1, hb, hs, ?_⟩
      first | exact tail_yes (by omega) | exact tail_no (by omega)
    · intro h8
      replace h8 : (f).length ≤ 0 := by omega
      refine L_nil (thenQ_normal (W_false (by kernel_rfl) (W_skip ?_)))
      refine thenQ_normal ⟨(Lib.join f ([59, 32] : List UInt8)), rfl, by kernel_rfl, by kernel_rfl, by kernel_rfl, by kernel_rfl, by kernel_rfl, p_f, o_x1, hb, hs, ?_⟩
      first | exact tail_yes (by omega) | exact tail_no (by omega)
  · rintro s9 w10 ⟨lst, hds, f_1, f_2, f_3, f_4, f_5, p_f, o_x1, hb, hs, jl⟩
    refine W_set 1 _ f_1 (W_set 2 _ f_2 (W_set 3 _ f_3 (W_set 4 _ f_4 (W_set 5 _ f_5 ?_))))
    clear f_1 f_2 f_3 f_4 f_5
    have hll : lst.length ≤ (joinF f).length + 1 := by rw [jl]; exact tail_len
    refine W_cut (fun s0 w0 => ∃ (sb : List UInt8), (s0.ds = []) ∧ (s0.f 1 = (.pointer (some ⟨b1, 0, none⟩))) ∧ (s0.f 4 = (S sb)) ∧ (Rd w0 encStr v_f f) ∧ (w0.heap[b1]? = some (.cells [(.int .i64 no), (.int .u8 k), (S m), v_f, (S t)].toArray 47 (0, 0))) ∧ (Below w.heap.size w w0) ∧ (w.heap.size ≤ w0.heap.size) ∧ (sb = bodyF k m f) ∧ (0 ≤ k ∧ k ≤ 3)) ?_ ?_
    · refine W_seq (W_region (L_run (.pointer (some ⟨b1, 1, none⟩)) (by kernel_rfl) (by kernel_rfl) (L_load b1 1 (.int .u8 k) (by kernel_rfl) (by kernel_rfl) (cell_obj o_x1 rfl) (L_nil (thenQ_normal (W_block (W_seq (W_region (L_cmp .u8 k 0 (k = 0) rfl (cmp_eq k 0) (by kernel_rfl) (by kernel_rfl) ?_ ?_)))))))))
      · intro h11
        replace h11 : k = 0 := by omega
        refine L_as (L_nil (thenQ_normal (W_true (by kernel_rfl) (W_skip (blkQ_normal ?_)))))
        refine thenQ_normal ⟨([] : List UInt8), hds, by kernel_rfl, by kernel_rfl, p_f, o_x1, hb, hs, ?_, ?_⟩
        · first | exact body_0 (by omega) | exact body_1 (by omega) | exact body_2 (by omega) jl | exact body_3 (by omega) jl
        · omega
      · intro h12
        replace h12 : k ≠ 0 := by omega
        refine L_as (L_nil (thenQ_normal (W_false (by kernel_rfl) (W_seq (W_region (L_cmp .u8 k 1 (k = 1) rfl (cmp_eq k 1) (by kernel_rfl) (by kernel_rfl) ?_ ?_))))))
        · intro h13
          replace h13 : k = 1 := by omega
          refine L_as (L_nil (thenQ_normal (W_true (by kernel_rfl) (W_region (L_run (.pointer (some ⟨b1, 3, none⟩)) (by kernel_rfl) (by kernel_rfl) (L_load b1 3 v_f (by kernel_rfl) (by kernel_rfl) (cell_obj o_x1 rfl) (L_call 60 [v_f, (S ([59, 32] : List UInt8))] (by kernel_rfl) (by kernel_rfl) (c_strings_Join v_f f ([59, 32] : List UInt8) _ p_f (by assumption) (by omega) (by first | exact hj0 | omega)) ?_)))))))
          rintro _ w14 ⟨rfl, hB15⟩
          replace hb := hb.trans (hB15.mono hs)
          replace hs := Nat.le_trans hs (hB15.size)
          replace o_x1 := obj_below o_x1 hB15
          replace p_f := p_f.below hB15
          refine L_as (L_nil (blkQ_normal ?_))
          refine thenQ_normal ⟨(Lib.join f ([59, 32] : List UInt8)), hds, by kernel_rfl, by kernel_rfl, p_f, o_x1, hb, hs, ?_, ?_⟩
          · first | exact body_0 (by omega) | exact body_1 (by omega) | exact body_2 (by omega) jl | exact body_3 (by omega) jl
          · omega
        · intro h17
          replace h17 : k ≠ 1 := by omega
          refine L_as (L_nil (thenQ_normal (W_false (by kernel_rfl) (W_seq (W_region (L_cmp .u8 k 2 (k = 2) rfl (cmp_eq k 2) (by kernel_rfl) (by kernel_rfl) ?_ ?_))))))
          · intro h18
            replace h18 : k = 2 := by omega
            refine L_as (L_nil (thenQ_normal (W_true (by kernel_rfl) (W_region (L_run (.pointer (some ⟨b1, 2, none⟩)) (by kernel_rfl) (by kernel_rfl) (L_load b1 2 (S m) (by kernel_rfl) (by kernel_rfl) (cell_obj o_x1 rfl) (L_sadd ([64] : List UInt8) m (by first | omega | (simp only [List.length_append, List.length_cons, List.length_nil]; omega) | (simp only [bytesI, List.length_map, List.length_append, List.length_cons, List.length_nil]; omega)) (by kernel_rfl) (by kernel_rfl) (L_sadd (([64] : List UInt8) ++ m) ([58] : List UInt8) (by first | omega | (simp only [List.length_append, List.length_cons, List.length_nil]; omega) | (simp only [bytesI, List.length_map, List.length_append, List.length_cons, List.length_nil]; omega)) (by kernel_rfl) (by kernel_rfl) (L_mv (L_sadd ((([64] : List UInt8) ++ m) ++ ([58] : List UInt8)) lst (by first | omega | (simp only [List.length_append, List.length_cons, List.length_nil]; omega) | (simp only [bytesI, List.length_map, List.length_append, List.length_cons, List.length_nil]; omega)) (by kernel_rfl) (by kernel_rfl) (L_as (L_nil (blkQ_normal ?_)))))))))))))
            refine thenQ_normal ⟨(((([64] : List UInt8) ++ m) ++ ([58] : List UInt8)) ++ lst), hds, by kernel_rfl, by kernel_rfl, p_f, o_x1, hb, hs, ?_, ?_⟩
            · first | exact body_0 (by omega) | exact body_1 (by omega) | exact body_2 (by omega) jl | exact body_3 (by omega) jl
            · omega
          · intro h19
            replace h19 : k ≠ 2 := by omega
            refine L_as (L_nil (thenQ_normal (W_false (by kernel_rfl) (W_seq (W_region (L_cmp .u8 k 3 (k = 3) rfl (cmp_eq k 3) (by kernel_rfl) (by kernel_rfl) ?_ ?_))))))
            · intro h20
              replace h20 : k = 3 := by omega
              refine L_as (L_nil (thenQ_normal (W_true (by kernel_rfl) (W_region (L_mv (L_sadd ([35, 32, 64, 109, 105, 115, 115, 105, 110, 103, 58] : List UInt8) lst (by first | omega | (simp only [List.length_append, List.length_cons, List.length_nil]; omega) | (simp only [bytesI, List.length_map, List.length_append, List.length_cons, List.length_nil]; omega)) (by kernel_rfl) (by kernel_rfl) (L_as (L_nil (blkQ_normal ?_)))))))))
              refine thenQ_normal ⟨(([35, 32, 64, 109, 105, 115, 115, 105, 110, 103, 58] : List UInt8) ++ lst), hds, by kernel_rfl, by kernel_rfl, p_f, o_x1, hb, hs, ?_, ?_⟩
              · first | exact body_0 (by omega) | exact body_1 (by omega) | exact body_2 (by omega) jl | exact body_3 (by omega) jl
              · omega
            · intro h21
              replace h21 : k ≠ 3 := by omega
              refine L_as (L_nil (thenQ_normal (W_false (by kernel_rfl) (W_seq (W_region (L_as (L_as (L_nil (thenQ_normal (W_ret (blkQ_ret (thenQ_ret ?_))))))))))))
              refine end_ret [.tmp 2, .tmp 3] [(S ([] : List UInt8)), (.int .i64 34)] rfl hds ⟨by kernel_rfl, by kernel_rfl, trivial⟩ ?_
              have hE : (([] : List UInt8) = (printF (no, k, m, f, t)).1) ∧ ((34 : Int) = (printF (no, k, m, f, t)).2) := ⟨(by first | (rw [show printF (no, k, m, f, t) = ([], 34) from by first | exact print_kind (by omega) | exact print_no1 jw (.inl (by omega)) | exact print_no1 jw (.inr (.inl (by assumption))) | exact print_no1 jw (.inr (.inr (.inl (by assumption)))) | exact print_no1 jw (.inr (.inr (.inr (.inl (by assumption))))) | exact print_no1 jw (.inr (.inr (.inr (.inr (of_decide_eq_false (by assumption)))))) | exact print_yes1 jk jw (by omega) (by assumption) (by assumption) (by assumption) (of_decide_eq_true (by assumption))]; done) | (rw [show printF (no, k, m, f, t) = (sw, 0) from by first | exact print_kind (by omega) | exact print_no1 jw (.inl (by omega)) | exact print_no1 jw (.inr (.inl (by assumption))) | exact print_no1 jw (.inr (.inr (.inl (by assumption)))) | exact print_no1 jw (.inr (.inr (.inr (.inl (by assumption))))) | exact print_no1 jw (.inr (.inr (.inr (.inr (of_decide_eq_false (by assumption)))))) | exact print_yes1 jk jw (by omega) (by assumption) (by assumption) (by assumption) (of_decide_eq_true (by assumption))]; done) | (rw [show printF (no, k, m, f, t) = ([], 34) from by first | exact print_kind (by omega) | exact print_no1 jw (.inl (by omega)) | exact print_no1 jw (.inr (.inl (by assumption))) | exact print_no1 jw (.inr (.inr (.inl (by assumption)))) | exact print_no1 jw (.inr (.inr (.inr (.inl (by assumption))))) | exact print_no1 jw (.inr (.inr (.inr (.inr (of_decide_eq_false (by assumption)))))) | exact print_yes1 jk jw (by omega) (by assumption) (by assumption) (by assumption) (of_decide_eq_true (by assumption))]; rfl) | (rw [show printF (no, k, m, f, t) = (sw, 0) from by first | exact print_kind (by omega) | exact print_no1 jw (.inl (by omega)) | exact print_no1 jw (.inr (.inl (by assumption))) | exact print_no1 jw (.inr (.inr (.inl (by assumption)))) | exact print_no1 jw (.inr (.inr (.inr (.inl (by assumption))))) | exact print_no1 jw (.inr (.inr (.inr (.inr (of_decide_eq_false (by assumption)))))) | exact print_yes1 jk jw (by omega) (by assumption) (by assumption) (by assumption) (of_decide_eq_true (by assumption))]; rfl)), (by first | (rw [show printF (no, k, m, f, t) = ([], 34) from by first | exact print_kind (by omega) | exact print_no1 jw (.inl (by omega)) | exact print_no1 jw (.inr (.inl (by assumption))) | exact print_no1 jw (.inr (.inr (.inl (by assumption)))) | exact print_no1 jw (.inr (.inr (.inr (.inl (by assumption))))) | exact print_no1 jw (.inr (.inr (.inr (.inr (of_decide_eq_false (by assumption)))))) | exact print_yes1 jk jw (by omega) (by assumption) (by assumption) (by assumption) (of_decide_eq_true (by assumption))]; done) | (rw [show printF (no, k, m, f, t) = (sw, 0) from by first | exact print_kind (by omega) | exact print_no1 jw (.inl (by omega)) | exact print_no1 jw (.inr (.inl (by assumption))) | exact print_no1 jw (.inr (.inr (.inl (by assumption)))) | exact print_no1 jw (.inr (.inr (.inr (.inl (by assumption))))) | exact print_no1 jw (.inr (.inr (.inr (.inr (of_decide_eq_false (by assumption)))))) | exact print_yes1 jk jw (by omega) (by assumption) (by assumption) (by assumption) (of_decide_eq_true (by assumption))]; done) | (rw [show printF (no, k, m, f, t) = ([], 34) from by first | exact print_kind (by omega) | exact print_no1 jw (.inl (by omega)) | exact print_no1 jw (.inr (.inl (by assumption))) | exact print_no1 jw (.inr (.inr (.inl (by assumption)))) | exact print_no1 jw (.inr (.inr (.inr (.inl (by assumption))))) | exact print_no1 jw (.inr (.inr (.inr (.inr (of_decide_eq_false (by assumption)))))) | exact print_yes1 jk jw (by omega) (by assumption) (by assumption) (by assumption) (of_decide_eq_true (by assumption))]; rfl) | (rw [show printF (no, k, m, f, t) = (sw, 0) from by first | exact print_kind (by omega) | exact print_no1 jw (.inl (by omega)) | exact print_no1 jw (.inr (.inl (by assumption))) | exact print_no1 jw (.inr (.inr (.inl (by assumption)))) | exact print_no1 jw (.inr (.inr (.inr (.inl (by assumption))))) | exact print_no1 jw (.inr (.inr (.inr (.inr (of_decide_eq_false (by assumption)))))) | exact print_yes1 jk jw (by omega) (by assumption) (by assumption) (by assumption) (of_decide_eq_true (by assumption))]; rfl))⟩
              exact ⟨tup2 (congrArg S hE.1) (congrArg (Value.int .i64) hE.2), hb⟩
    · rintro s22 w23 ⟨sb, hds, f_1, f_4, p_f, o_x1, hb, hs, jb, jk⟩
      refine W_set 1 _ f_1 (W_set 4 _ f_4 ?_)
      clear f_1 f_4
      have hbl : sb.length ≤ (joinF f).length + m.length + 20 := by rw [jb]; exact body_len
      refine W_cut (fun s0 w0 => ∃ (sw : List UInt8), (s0.ds = []) ∧ (s0.f 1 = (.pointer (some ⟨b1, 0, none⟩))) ∧ (s0.f 4 = (S sw)) ∧ (Rd w0 encStr v_f f) ∧ (w0.heap[b1]? = some (.cells [(.int .i64 no), (.int .u8 k), (S m), v_f, (S t)].toArray 47 (0, 0))) ∧ (Below w.heap.size w w0) ∧ (w.heap.size ≤ w0.heap.size) ∧ (sw = writF (no, k, m, f, t))) ?_ ?_
      · refine W_seq (W_region (L_run (.pointer (some ⟨b1, 4, none⟩)) (by kernel_rfl) (by kernel_rfl) (L_load b1 4 (S t) (by kernel_rfl) (by kernel_rfl) (cell_obj o_x1 rfl) (L_sne t ([] : List UInt8) rfl (by kernel_rfl) (by kernel_rfl) ?_ ?_))))
        · intro h24
          refine L_nil (thenQ_normal (W_true (by kernel_rfl) (W_seq (W_seq (W_region (L_mv (L_sne sb ([] : List UInt8) rfl (by kernel_rfl) (by kernel_rfl) ?_ ?_)))))))
          · intro h25
            refine L_nil (thenQ_normal (W_true (by kernel_rfl) (W_region (L_mv (L_sadd sb ([32] : List UInt8) (by first | omega | (simp only [List.length_append, List.length_cons, List.length_nil]; omega) | (simp only [bytesI, List.length_map, List.length_append, List.length_cons, List.length_nil]; omega)) (by kernel_rfl) (by kernel_rfl) (L_as (L_nil (thenQ_normal (W_region (L_mv (L_run (.pointer (some ⟨b1, 4, none⟩)) (by kernel_rfl) (by kernel_rfl) (L_load b1 4 (S t) (by kernel_rfl) (by kernel_rfl) (cell_obj o_x1 rfl) (L_sadd ([35, 32] : List UInt8) t (by first | omega | (simp only [List.length_append, List.length_cons, List.length_nil]; omega) | (simp only [bytesI, List.length_map, List.length_append, List.length_cons, List.length_nil]; omega)) (by kernel_rfl) (by kernel_rfl) (L_sadd (sb ++ ([32] : List UInt8)) (([35, 32] : List UInt8) ++ t) (by first | omega | (simp only [List.length_append, List.length_cons, List.length_nil]; omega) | (simp only [bytesI, List.length_map, List.length_append, List.length_cons, List.length_nil]; omega)) (by kernel_rfl) (by kernel_rfl) (L_as (L_nil ?_))))))))))))))))
            refine thenQ_normal ⟨((sb ++ ([32] : List UInt8)) ++ (([35, 32] : List UInt8) ++ t)), hds, by kernel_rfl, by kernel_rfl, p_f, o_x1, hb, hs, ?_⟩
            first | exact writ_none jb (by assumption) | exact writ_bare jb (by assumption) (by assumption) | exact writ_both jb (by assumption) (by assumption)
          · intro h26
            refine L_nil (thenQ_normal (W_false (by kernel_rfl) (W_skip (thenQ_normal (W_region (L_mv (L_run (.pointer (some ⟨b1, 4, none⟩)) (by kernel_rfl) (by kernel_rfl) (L_load b1 4 (S t) (by kernel_rfl) (by kernel_rfl) (cell_obj o_x1 rfl) (L_sadd ([35, 32] : List UInt8) t (by first | omega | (simp only [List.length_append, List.length_cons, List.length_nil]; omega) | (simp only [bytesI, List.length_map, List.length_append, List.length_cons, List.length_nil]; omega)) (by kernel_rfl) (by kernel_rfl) (L_sadd sb (([35, 32] : List UInt8) ++ t) (by first | omega | (simp only [List.length_append, List.length_cons, List.length_nil]; omega) | (simp only [bytesI, List.length_map, List.length_append, List.length_cons, List.length_nil]; omega)) (by kernel_rfl) (by kernel_rfl) (L_as (L_nil ?_))))))))))))
            refine thenQ_normal ⟨(sb ++ (([35, 32] : List UInt8) ++ t)), hds, by kernel_rfl, by kernel_rfl, p_f, o_x1, hb, hs, ?_⟩
            first | exact writ_none jb (by assumption) | exact writ_bare jb (by assumption) (by assumption) | exact writ_both jb (by assumption) (by assumption)
        · intro h27
          refine L_nil (thenQ_normal (W_false (by kernel_rfl) (W_skip ?_)))
          refine thenQ_normal ⟨sb, hds, by kernel_rfl, by kernel_rfl, p_f, o_x1, hb, hs, ?_⟩
          first | exact writ_none jb (by assumption) | exact writ_bare jb (by assumption) (by assumption) | exact writ_both jb (by assumption) (by assumption)
      · rintro s28 w29 ⟨sw, hds, f_1, f_4, p_f, o_x1, hb, hs, jw⟩
        refine W_set 1 _ f_1 (W_set 4 _ f_4 ?_)
        clear f_1 f_4
        have hsl : sw.length ≤ 1000000100 := by rw [jw]; exact Nat.le_trans writ_len (by omega)
        have hfz := scan_flen no sw
        refine W_seq (W_region (L_run (.pointer (some ⟨b1, 0, none⟩)) (by kernel_rfl) (by kernel_rfl) (L_load b1 0 (.int .i64 no) (by kernel_rfl) (by kernel_rfl) (cell_obj o_x1 rfl) (L_mv (L_call 27 [(.int .i64 no), (S sw)] (by kernel_rfl) (by kernel_rfl) (c_lines_Scan no sw _ (by omega)) ?_)))))
        rintro _ w31 ⟨q30, rfl, r_q30, hB32⟩
        replace r_q30 := r_q30.base hs
        replace hb := hb.trans (hB32.mono hs)
        replace hs := Nat.le_trans hs (hB32.size)
        replace o_x1 := obj_below o_x1 hB32
        replace p_f := p_f.below hB32
        have := scan_err no sw
        refine L_mv (L_run (Value.agg #[(.int .i64 ((scanF no sw).1.1)), (.int .u8 ((scanF no sw).1.2.1)), (S ((scanF no sw).1.2.2.1)), q30, (S ((scanF no sw).1.2.2.2.2))]) (by kernel_rfl) (by kernel_rfl) (L_run (.int .i64 ((scanF no sw).2)) (by kernel_rfl) (by kernel_rfl) (L_new (fun b => .pointer (some ⟨b, 0, none⟩)) (.cells [(.int .i64 0), (.int .u8 0), (S ([] : List UInt8)), (.slice none 0 0), (S ([] : List UInt8))].toArray 47 (0, 0)) (by kernel_rfl) (by kernel_rfl) ?_)))
        intro b34 w35 hN36
        have ne_x1_x6 : b1 ≠ b34 := by have := (obj_lt o_x1); have := hN36.num; omega
        have ne_x6_x1 := ne_x1_x6.symm
        have g_x6 : w.heap.size ≤ b34 := by rw [hN36.num]; exact hs
        replace hb := hb.trans (hN36.below.mono hs)
        replace hs := Nat.le_trans hs (hN36.below.size)
        replace o_x1 := obj_below o_x1 hN36.below
        replace p_f := p_f.below hN36.below
        replace r_q30 := r_q30.below hN36.below
        have o_x6 := hN36.here
        refine L_storeA b34 0 [(.int .i64 ((scanF no sw).1.1)), (.int .u8 ((scanF no sw).1.2.1)), (S ((scanF no sw).1.2.2.1)), q30, (S ((scanF no sw).1.2.2.2.2))] [(.int .i64 0), (.int .u8 0), (S ([] : List UInt8)), (.slice none 0 0), (S ([] : List UInt8))] [(.int .i64 ((scanF no sw).1.1)), (.int .u8 ((scanF no sw).1.2.1)), (S ((scanF no sw).1.2.2.1)), q30, (S ((scanF no sw).1.2.2.2.2))] 47 (by kernel_rfl) (by kernel_rfl) (allc rfl (allc rfl (allc rfl (allc r_q30.one (allc rfl rfl))))) (by kernel_rfl) o_x6 (by kernel_rfl) rfl ?_
        intro w37 hW38
        replace hb := hb.trans (hW38.below g_x6)
        replace hs := Nat.le_trans hs (Nat.le_of_eq hW38.size.symm)
        have n_o_x1 := obj_wrote o_x1 hW38 ne_x1_x6
        have n_p_f := in_p_f.below hb
        have n_r_q30 := r_q30.wrote hW38 (r_q30.ne o_x6 (by simp))
        replace o_x1 := n_o_x1; clear n_o_x1
        replace p_f := n_p_f; clear n_p_f
        replace r_q30 := n_r_q30; clear n_r_q30
        replace o_x6 := hW38.here
        refine L_as (L_nil (thenQ_normal (W_seq (W_seq (W_region (L_mv (L_cmp .i64 ((scanF no sw).2) 0 ((scanF no sw).2 ≠ 0) rfl (cmp_ne ((scanF no sw).2) 0) (by kernel_rfl) (by kernel_rfl) ?_ ?_)))))))
        · intro h39
          replace h39 : (scanF no sw).2 ≠ 0 := by omega
          refine L_mv (L_skip (by kernel_rfl) (L_skip (by kernel_rfl) (L_skip (by kernel_rfl) (L_skip (by kernel_rfl) (L_skip (by kernel_rfl) (L_pickT (by kernel_rfl) (L_mv (L_skip (by kernel_rfl) (L_skip (by kernel_rfl) (L_skip (by kernel_rfl) (L_skip (by kernel_rfl) (L_skip (by kernel_rfl) (L_pickT (by kernel_rfl) (L_mv (L_skip (by kernel_rfl) (L_skip (by kernel_rfl) (L_skip (by kernel_rfl) (L_skip (by kernel_rfl) (L_skip (by kernel_rfl) (L_pickT (by kernel_rfl) (L_mv (L_skip (by kernel_rfl) (L_skip (by kernel_rfl) (L_skip (by kernel_rfl) (L_skip (by kernel_rfl) (L_skip (by kernel_rfl) (L_skip (by kernel_rfl) (L_pickT (by kernel_rfl) (L_nil (thenQ_normal (W_true (by kernel_rfl) (W_seq (W_region (L_as (L_as (L_nil (thenQ_normal (W_ret (thenQ_ret ?_)))))))))))))))))))))))))))))))))))))))
          refine end_ret [.tmp 2, .tmp 3] [(S ([] : List UInt8)), (.int .i64 34)] rfl hds ⟨by kernel_rfl, by kernel_rfl, trivial⟩ ?_
          have hE : (([] : List UInt8) = (printF (no, k, m, f, t)).1) ∧ ((34 : Int) = (printF (no, k, m, f, t)).2) := ⟨(by first | (rw [show printF (no, k, m, f, t) = ([], 34) from by first | exact print_kind (by omega) | exact print_no1 jw (.inl (by omega)) | exact print_no1 jw (.inr (.inl (by assumption))) | exact print_no1 jw (.inr (.inr (.inl (by assumption)))) | exact print_no1 jw (.inr (.inr (.inr (.inl (by assumption))))) | exact print_no1 jw (.inr (.inr (.inr (.inr (of_decide_eq_false (by assumption)))))) | exact print_yes1 jk jw (by omega) (by assumption) (by assumption) (by assumption) (of_decide_eq_true (by assumption))]; done) | (rw [show printF (no, k, m, f, t) = (sw, 0) from by first | exact print_kind (by omega) | exact print_no1 jw (.inl (by omega)) | exact print_no1 jw (.inr (.inl (by assumption))) | exact print_no1 jw (.inr (.inr (.inl (by assumption)))) | exact print_no1 jw (.inr (.inr (.inr (.inl (by assumption))))) | exact print_no1 jw (.inr (.inr (.inr (.inr (of_decide_eq_false (by assumption)))))) | exact print_yes1 jk jw (by omega) (by assumption) (by assumption) (by assumption) (of_decide_eq_true (by assumption))]; done) | (rw [show printF (no, k, m, f, t) = ([], 34) from by first | exact print_kind (by omega) | exact print_no1 jw (.inl (by omega)) | exact print_no1 jw (.inr (.inl (by assumption))) | exact print_no1 jw (.inr (.inr (.inl (by assumption)))) | exact print_no1 jw (.inr (.inr (.inr (.inl (by assumption))))) | exact print_no1 jw (.inr (.inr (.inr (.inr (of_decide_eq_false (by assumption)))))) | exact print_yes1 jk jw (by omega) (by assumption) (by assumption) (by assumption) (of_decide_eq_true (by assumption))]; rfl) | (rw [show printF (no, k, m, f, t) = (sw, 0) from by first | exact print_kind (by omega) | exact print_no1 jw (.inl (by omega)) | exact print_no1 jw (.inr (.inl (by assumption))) | exact print_no1 jw (.inr (.inr (.inl (by assumption)))) | exact print_no1 jw (.inr (.inr (.inr (.inl (by assumption))))) | exact print_no1 jw (.inr (.inr (.inr (.inr (of_decide_eq_false (by assumption)))))) | exact print_yes1 jk jw (by omega) (by assumption) (by assumption) (by assumption) (of_decide_eq_true (by assumption))]; rfl)), (by first | (rw [show printF (no, k, m, f, t) = ([], 34) from by first | exact print_kind (by omega) | exact print_no1 jw (.inl (by omega)) | exact print_no1 jw (.inr (.inl (by assumption))) | exact print_no1 jw (.inr (.inr (.inl (by assumption)))) | exact print_no1 jw (.inr (.inr (.inr (.inl (by assumption))))) | exact print_no1 jw (.inr (.inr (.inr (.inr (of_decide_eq_false (by assumption)))))) | exact print_yes1 jk jw (by omega) (by assumption) (by assumption) (by assumption) (of_decide_eq_true (by assumption))]; done) | (rw [show printF (no, k, m, f, t) = (sw, 0) from by first | exact print_kind (by omega) | exact print_no1 jw (.inl (by omega)) | exact print_no1 jw (.inr (.inl (by assumption))) | exact print_no1 jw (.inr (.inr (.inl (by assumption)))) | exact print_no1 jw (.inr (.inr (.inr (.inl (by assumption))))) | exact print_no1 jw (.inr (.inr (.inr (.inr (of_decide_eq_false (by assumption)))))) | exact print_yes1 jk jw (by omega) (by assumption) (by assumption) (by assumption) (of_decide_eq_true (by assumption))]; done) | (rw [show printF (no, k, m, f, t) = ([], 34) from by first | exact print_kind (by omega) | exact print_no1 jw (.inl (by omega)) | exact print_no1 jw (.inr (.inl (by assumption))) | exact print_no1 jw (.inr (.inr (.inl (by assumption)))) | exact print_no1 jw (.inr (.inr (.inr (.inl (by assumption))))) | exact print_no1 jw (.inr (.inr (.inr (.inr (of_decide_eq_false (by assumption)))))) | exact print_yes1 jk jw (by omega) (by assumption) (by assumption) (by assumption) (of_decide_eq_true (by assumption))]; rfl) | (rw [show printF (no, k, m, f, t) = (sw, 0) from by first | exact print_kind (by omega) | exact print_no1 jw (.inl (by omega)) | exact print_no1 jw (.inr (.inl (by assumption))) | exact print_no1 jw (.inr (.inr (.inl (by assumption)))) | exact print_no1 jw (.inr (.inr (.inr (.inl (by assumption))))) | exact print_no1 jw (.inr (.inr (.inr (.inr (of_decide_eq_false (by assumption)))))) | exact print_yes1 jk jw (by omega) (by assumption) (by assumption) (by assumption) (of_decide_eq_true (by assumption))]; rfl))⟩
          exact ⟨tup2 (congrArg S hE.1) (congrArg (Value.int .i64) hE.2), hb⟩
        · intro h40
          replace h40 : (scanF no sw).2 = 0 := by omega
          refine L_mv (L_want (by kernel_rfl) (L_run (.pointer (some ⟨b34, 1, none⟩)) (by kernel_rfl) (by kernel_rfl) (L_want (by kernel_rfl) (L_load b34 1 (.int .u8 ((scanF no sw).1.2.1)) (by kernel_rfl) (by kernel_rfl) (cell_obj o_x6 rfl) (L_want (by kernel_rfl) (L_run (.pointer (some ⟨b1, 1, none⟩)) (by kernel_rfl) (by kernel_rfl) (L_want (by kernel_rfl) (L_load b1 1 (.int .u8 k) (by kernel_rfl) (by kernel_rfl) (cell_obj o_x1 rfl) (L_want (by kernel_rfl) (L_cmp .u8 ((scanF no sw).1.2.1) k ((scanF no sw).1.2.1 ≠ k) rfl (cmp_ne ((scanF no sw).1.2.1) k) (by kernel_rfl) (by kernel_rfl) ?_ ?_))))))))))
          · intro h41
            replace h41 : (scanF no sw).1.2.1 ≠ k := by omega
            refine L_pickF (by kernel_rfl) (L_mv (L_skip (by kernel_rfl) (L_skip (by kernel_rfl) (L_skip (by kernel_rfl) (L_skip (by kernel_rfl) (L_skip (by kernel_rfl) (L_pickT (by kernel_rfl) (L_mv (L_skip (by kernel_rfl) (L_skip (by kernel_rfl) (L_skip (by kernel_rfl) (L_skip (by kernel_rfl) (L_skip (by kernel_rfl) (L_pickT (by kernel_rfl) (L_mv (L_skip (by kernel_rfl) (L_skip (by kernel_rfl) (L_skip (by kernel_rfl) (L_skip (by kernel_rfl) (L_skip (by kernel_rfl) (L_skip (by kernel_rfl) (L_pickT (by kernel_rfl) (L_nil (thenQ_normal (W_true (by kernel_rfl) (W_seq (W_region (L_as (L_as (L_nil (thenQ_normal (W_ret (thenQ_ret ?_)))))))))))))))))))))))))))))))))
            refine end_ret [.tmp 2, .tmp 3] [(S ([] : List UInt8)), (.int .i64 34)] rfl hds ⟨by kernel_rfl, by kernel_rfl, trivial⟩ ?_
            have hE : (([] : List UInt8) = (printF (no, k, m, f, t)).1) ∧ ((34 : Int) = (printF (no, k, m, f, t)).2) := ⟨(by first | (rw [show printF (no, k, m, f, t) = ([], 34) from by first | exact print_kind (by omega) | exact print_no1 jw (.inl (by omega)) | exact print_no1 jw (.inr (.inl (by assumption))) | exact print_no1 jw (.inr (.inr (.inl (by assumption)))) | exact print_no1 jw (.inr (.inr (.inr (.inl (by assumption))))) | exact print_no1 jw (.inr (.inr (.inr (.inr (of_decide_eq_false (by assumption)))))) | exact print_yes1 jk jw (by omega) (by assumption) (by assumption) (by assumption) (of_decide_eq_true (by assumption))]; done) | (rw [show printF (no, k, m, f, t) = (sw, 0) from by first | exact print_kind (by omega) | exact print_no1 jw (.inl (by omega)) | exact print_no1 jw (.inr (.inl (by assumption))) | exact print_no1 jw (.inr (.inr (.inl (by assumption)))) | exact print_no1 jw (.inr (.inr (.inr (.inl (by assumption))))) | exact print_no1 jw (.inr (.inr (.inr (.inr (of_decide_eq_false (by assumption)))))) | exact print_yes1 jk jw (by omega) (by assumption) (by assumption) (by assumption) (of_decide_eq_true (by assumption))]; done) | (rw [show printF (no, k, m, f, t) = ([], 34) from by first | exact print_kind (by omega) | exact print_no1 jw (.inl (by omega)) | exact print_no1 jw (.inr (.inl (by assumption))) | exact print_no1 jw (.inr (.inr (.inl (by assumption)))) | exact print_no1 jw (.inr (.inr (.inr (.inl (by assumption))))) | exact print_no1 jw (.inr (.inr (.inr (.inr (of_decide_eq_false (by assumption)))))) | exact print_yes1 jk jw (by omega) (by assumption) (by assumption) (by assumption) (of_decide_eq_true (by assumption))]; rfl) | (rw [show printF (no, k, m, f, t) = (sw, 0) from by first | exact print_kind (by omega) | exact print_no1 jw (.inl (by omega)) | exact print_no1 jw (.inr (.inl (by assumption))) | exact print_no1 jw (.inr (.inr (.inl (by assumption)))) | exact print_no1 jw (.inr (.inr (.inr (.inl (by assumption))))) | exact print_no1 jw (.inr (.inr (.inr (.inr (of_decide_eq_false (by assumption)))))) | exact print_yes1 jk jw (by omega) (by assumption) (by assumption) (by assumption) (of_decide_eq_true (by assumption))]; rfl)), (by first | (rw [show printF (no, k, m, f, t) = ([], 34) from by first | exact print_kind (by omega) | exact print_no1 jw (.inl (by omega)) | exact print_no1 jw (.inr (.inl (by assumption))) | exact print_no1 jw (.inr (.inr (.inl (by assumption)))) | exact print_no1 jw (.inr (.inr (.inr (.inl (by assumption))))) | exact print_no1 jw (.inr (.inr (.inr (.inr (of_decide_eq_false (by assumption)))))) | exact print_yes1 jk jw (by omega) (by assumption) (by assumption) (by assumption) (of_decide_eq_true (by assumption))]; done) | (rw [show printF (no, k, m, f, t) = (sw, 0) from by first | exact print_kind (by omega) | exact print_no1 jw (.inl (by omega)) | exact print_no1 jw (.inr (.inl (by assumption))) | exact print_no1 jw (.inr (.inr (.inl (by assumption)))) | exact print_no1 jw (.inr (.inr (.inr (.inl (by assumption))))) | exact print_no1 jw (.inr (.inr (.inr (.inr (of_decide_eq_false (by assumption)))))) | exact print_yes1 jk jw (by omega) (by assumption) (by assumption) (by assumption) (of_decide_eq_true (by assumption))]; done) | (rw [show printF (no, k, m, f, t) = ([], 34) from by first | exact print_kind (by omega) | exact print_no1 jw (.inl (by omega)) | exact print_no1 jw (.inr (.inl (by assumption))) | exact print_no1 jw (.inr (.inr (.inl (by assumption)))) | exact print_no1 jw (.inr (.inr (.inr (.inl (by assumption))))) | exact print_no1 jw (.inr (.inr (.inr (.inr (of_decide_eq_false (by assumption)))))) | exact print_yes1 jk jw (by omega) (by assumption) (by assumption) (by assumption) (of_decide_eq_true (by assumption))]; rfl) | (rw [show printF (no, k, m, f, t) = (sw, 0) from by first | exact print_kind (by omega) | exact print_no1 jw (.inl (by omega)) | exact print_no1 jw (.inr (.inl (by assumption))) | exact print_no1 jw (.inr (.inr (.inl (by assumption)))) | exact print_no1 jw (.inr (.inr (.inr (.inl (by assumption))))) | exact print_no1 jw (.inr (.inr (.inr (.inr (of_decide_eq_false (by assumption)))))) | exact print_yes1 jk jw (by omega) (by assumption) (by assumption) (by assumption) (of_decide_eq_true (by assumption))]; rfl))⟩
            exact ⟨tup2 (congrArg S hE.1) (congrArg (Value.int .i64) hE.2), hb⟩
          · intro h42
            replace h42 : (scanF no sw).1.2.1 = k := by omega
            refine L_pickF (by kernel_rfl) (L_mv (L_want (by kernel_rfl) (L_run (.pointer (some ⟨b34, 2, none⟩)) (by kernel_rfl) (by kernel_rfl) (L_want (by kernel_rfl) (L_load b34 2 (S ((scanF no sw).1.2.2.1)) (by kernel_rfl) (by kernel_rfl) (cell_obj o_x6 rfl) (L_want (by kernel_rfl) (L_run (.pointer (some ⟨b1, 2, none⟩)) (by kernel_rfl) (by kernel_rfl) (L_want (by kernel_rfl) (L_load b1 2 (S m) (by kernel_rfl) (by kernel_rfl) (cell_obj o_x1 rfl) (L_want (by kernel_rfl) (L_sne ((scanF no sw).1.2.2.1) m rfl (by kernel_rfl) (by kernel_rfl) ?_ ?_)))))))))))
            · intro h43
              refine L_pickF (by kernel_rfl) (L_mv (L_skip (by kernel_rfl) (L_skip (by kernel_rfl) (L_skip (by kernel_rfl) (L_skip (by kernel_rfl) (L_skip (by kernel_rfl) (L_pickT (by kernel_rfl) (L_mv (L_skip (by kernel_rfl) (L_skip (by kernel_rfl) (L_skip (by kernel_rfl) (L_skip (by kernel_rfl) (L_skip (by kernel_rfl) (L_skip (by kernel_rfl) (L_pickT (by kernel_rfl) (L_nil (thenQ_normal (W_true (by kernel_rfl) (W_seq (W_region (L_as (L_as (L_nil (thenQ_normal (W_ret (thenQ_ret ?_))))))))))))))))))))))))))
              refine end_ret [.tmp 2, .tmp 3] [(S ([] : List UInt8)), (.int .i64 34)] rfl hds ⟨by kernel_rfl, by kernel_rfl, trivial⟩ ?_
              have hE : (([] : List UInt8) = (printF (no, k, m, f, t)).1) ∧ ((34 : Int) = (printF (no, k, m, f, t)).2) := ⟨(by first | (rw [show printF (no, k, m, f, t) = ([], 34) from by first | exact print_kind (by omega) | exact print_no1 jw (.inl (by omega)) | exact print_no1 jw (.inr (.inl (by assumption))) | exact print_no1 jw (.inr (.inr (.inl (by assumption)))) | exact print_no1 jw (.inr (.inr (.inr (.inl (by assumption))))) | exact print_no1 jw (.inr (.inr (.inr (.inr (of_decide_eq_false (by assumption)))))) | exact print_yes1 jk jw (by omega) (by assumption) (by assumption) (by assumption) (of_decide_eq_true (by assumption))]; done) | (rw [show printF (no, k, m, f, t) = (sw, 0) from by first | exact print_kind (by omega) | exact print_no1 jw (.inl (by omega)) | exact print_no1 jw (.inr (.inl (by assumption))) | exact print_no1 jw (.inr (.inr (.inl (by assumption)))) | exact print_no1 jw (.inr (.inr (.inr (.inl (by assumption))))) | exact print_no1 jw (.inr (.inr (.inr (.inr (of_decide_eq_false (by assumption)))))) | exact print_yes1 jk jw (by omega) (by assumption) (by assumption) (by assumption) (of_decide_eq_true (by assumption))]; done) | (rw [show printF (no, k, m, f, t) = ([], 34) from by first | exact print_kind (by omega) | exact print_no1 jw (.inl (by omega)) | exact print_no1 jw (.inr (.inl (by assumption))) | exact print_no1 jw (.inr (.inr (.inl (by assumption)))) | exact print_no1 jw (.inr (.inr (.inr (.inl (by assumption))))) | exact print_no1 jw (.inr (.inr (.inr (.inr (of_decide_eq_false (by assumption)))))) | exact print_yes1 jk jw (by omega) (by assumption) (by assumption) (by assumption) (of_decide_eq_true (by assumption))]; rfl) | (rw [show printF (no, k, m, f, t) = (sw, 0) from by first | exact print_kind (by omega) | exact print_no1 jw (.inl (by omega)) | exact print_no1 jw (.inr (.inl (by assumption))) | exact print_no1 jw (.inr (.inr (.inl (by assumption)))) | exact print_no1 jw (.inr (.inr (.inr (.inl (by assumption))))) | exact print_no1 jw (.inr (.inr (.inr (.inr (of_decide_eq_false (by assumption)))))) | exact print_yes1 jk jw (by omega) (by assumption) (by assumption) (by assumption) (of_decide_eq_true (by assumption))]; rfl)), (by first | (rw [show printF (no, k, m, f, t) = ([], 34) from by first | exact print_kind (by omega) | exact print_no1 jw (.inl (by omega)) | exact print_no1 jw (.inr (.inl (by assumption))) | exact print_no1 jw (.inr (.inr (.inl (by assumption)))) | exact print_no1 jw (.inr (.inr (.inr (.inl (by assumption))))) | exact print_no1 jw (.inr (.inr (.inr (.inr (of_decide_eq_false (by assumption)))))) | exact print_yes1 jk jw (by omega) (by assumption) (by assumption) (by assumption) (of_decide_eq_true (by assumption))]; done) | (rw [show printF (no, k, m, f, t) = (sw, 0) from by first | exact print_kind (by omega) | exact print_no1 jw (.inl (by omega)) | exact print_no1 jw (.inr (.inl (by assumption))) | exact print_no1 jw (.inr (.inr (.inl (by assumption)))) | exact print_no1 jw (.inr (.inr (.inr (.inl (by assumption))))) | exact print_no1 jw (.inr (.inr (.inr (.inr (of_decide_eq_false (by assumption)))))) | exact print_yes1 jk jw (by omega) (by assumption) (by assumption) (by assumption) (of_decide_eq_true (by assumption))]; done) | (rw [show printF (no, k, m, f, t) = ([], 34) from by first | exact print_kind (by omega) | exact print_no1 jw (.inl (by omega)) | exact print_no1 jw (.inr (.inl (by assumption))) | exact print_no1 jw (.inr (.inr (.inl (by assumption)))) | exact print_no1 jw (.inr (.inr (.inr (.inl (by assumption))))) | exact print_no1 jw (.inr (.inr (.inr (.inr (of_decide_eq_false (by assumption)))))) | exact print_yes1 jk jw (by omega) (by assumption) (by assumption) (by assumption) (of_decide_eq_true (by assumption))]; rfl) | (rw [show printF (no, k, m, f, t) = (sw, 0) from by first | exact print_kind (by omega) | exact print_no1 jw (.inl (by omega)) | exact print_no1 jw (.inr (.inl (by assumption))) | exact print_no1 jw (.inr (.inr (.inl (by assumption)))) | exact print_no1 jw (.inr (.inr (.inr (.inl (by assumption))))) | exact print_no1 jw (.inr (.inr (.inr (.inr (of_decide_eq_false (by assumption)))))) | exact print_yes1 jk jw (by omega) (by assumption) (by assumption) (by assumption) (of_decide_eq_true (by assumption))]; rfl))⟩
              exact ⟨tup2 (congrArg S hE.1) (congrArg (Value.int .i64) hE.2), hb⟩
            · intro h44
              refine L_pickF (by kernel_rfl) (L_mv (L_want (by kernel_rfl) (L_run (.pointer (some ⟨b34, 4, none⟩)) (by kernel_rfl) (by kernel_rfl) (L_want (by kernel_rfl) (L_load b34 4 (S ((scanF no sw).1.2.2.2.2)) (by kernel_rfl) (by kernel_rfl) (cell_obj o_x6 rfl) (L_want (by kernel_rfl) (L_run (.pointer (some ⟨b1, 4, none⟩)) (by kernel_rfl) (by kernel_rfl) (L_want (by kernel_rfl) (L_load b1 4 (S t) (by kernel_rfl) (by kernel_rfl) (cell_obj o_x1 rfl) (L_want (by kernel_rfl) (L_sne ((scanF no sw).1.2.2.2.2) t rfl (by kernel_rfl) (by kernel_rfl) ?_ ?_)))))))))))
              · intro h45
                refine L_pickF (by kernel_rfl) (L_mv (L_skip (by kernel_rfl) (L_skip (by kernel_rfl) (L_skip (by kernel_rfl) (L_skip (by kernel_rfl) (L_skip (by kernel_rfl) (L_skip (by kernel_rfl) (L_pickT (by kernel_rfl) (L_nil (thenQ_normal (W_true (by kernel_rfl) (W_seq (W_region (L_as (L_as (L_nil (thenQ_normal (W_ret (thenQ_ret ?_)))))))))))))))))))
                refine end_ret [.tmp 2, .tmp 3] [(S ([] : List UInt8)), (.int .i64 34)] rfl hds ⟨by kernel_rfl, by kernel_rfl, trivial⟩ ?_
                have hE : (([] : List UInt8) = (printF (no, k, m, f, t)).1) ∧ ((34 : Int) = (printF (no, k, m, f, t)).2) := ⟨(by first | (rw [show printF (no, k, m, f, t) = ([], 34) from by first | exact print_kind (by omega) | exact print_no1 jw (.inl (by omega)) | exact print_no1 jw (.inr (.inl (by assumption))) | exact print_no1 jw (.inr (.inr (.inl (by assumption)))) | exact print_no1 jw (.inr (.inr (.inr (.inl (by assumption))))) | exact print_no1 jw (.inr (.inr (.inr (.inr (of_decide_eq_false (by assumption)))))) | exact print_yes1 jk jw (by omega) (by assumption) (by assumption) (by assumption) (of_decide_eq_true (by assumption))]; done) | (rw [show printF (no, k, m, f, t) = (sw, 0) from by first | exact print_kind (by omega) | exact print_no1 jw (.inl (by omega)) | exact print_no1 jw (.inr (.inl (by assumption))) | exact print_no1 jw (.inr (.inr (.inl (by assumption)))) | exact print_no1 jw (.inr (.inr (.inr (.inl (by assumption))))) | exact print_no1 jw (.inr (.inr (.inr (.inr (of_decide_eq_false (by assumption)))))) | exact print_yes1 jk jw (by omega) (by assumption) (by assumption) (by assumption) (of_decide_eq_true (by assumption))]; done) | (rw [show printF (no, k, m, f, t) = ([], 34) from by first | exact print_kind (by omega) | exact print_no1 jw (.inl (by omega)) | exact print_no1 jw (.inr (.inl (by assumption))) | exact print_no1 jw (.inr (.inr (.inl (by assumption)))) | exact print_no1 jw (.inr (.inr (.inr (.inl (by assumption))))) | exact print_no1 jw (.inr (.inr (.inr (.inr (of_decide_eq_false (by assumption)))))) | exact print_yes1 jk jw (by omega) (by assumption) (by assumption) (by assumption) (of_decide_eq_true (by assumption))]; rfl) | (rw [show printF (no, k, m, f, t) = (sw, 0) from by first | exact print_kind (by omega) | exact print_no1 jw (.inl (by omega)) | exact print_no1 jw (.inr (.inl (by assumption))) | exact print_no1 jw (.inr (.inr (.inl (by assumption)))) | exact print_no1 jw (.inr (.inr (.inr (.inl (by assumption))))) | exact print_no1 jw (.inr (.inr (.inr (.inr (of_decide_eq_false (by assumption)))))) | exact print_yes1 jk jw (by omega) (by assumption) (by assumption) (by assumption) (of_decide_eq_true (by assumption))]; rfl)), (by first | (rw [show printF (no, k, m, f, t) = ([], 34) from by first | exact print_kind (by omega) | exact print_no1 jw (.inl (by omega)) | exact print_no1 jw (.inr (.inl (by assumption))) | exact print_no1 jw (.inr (.inr (.inl (by assumption)))) | exact print_no1 jw (.inr (.inr (.inr (.inl (by assumption))))) | exact print_no1 jw (.inr (.inr (.inr (.inr (of_decide_eq_false (by assumption)))))) | exact print_yes1 jk jw (by omega) (by assumption) (by assumption) (by assumption) (of_decide_eq_true (by assumption))]; done) | (rw [show printF (no, k, m, f, t) = (sw, 0) from by first | exact print_kind (by omega) | exact print_no1 jw (.inl (by omega)) | exact print_no1 jw (.inr (.inl (by assumption))) | exact print_no1 jw (.inr (.inr (.inl (by assumption)))) | exact print_no1 jw (.inr (.inr (.inr (.inl (by assumption))))) | exact print_no1 jw (.inr (.inr (.inr (.inr (of_decide_eq_false (by assumption)))))) | exact print_yes1 jk jw (by omega) (by assumption) (by assumption) (by assumption) (of_decide_eq_true (by assumption))]; done) | (rw [show printF (no, k, m, f, t) = ([], 34) from by first | exact print_kind (by omega) | exact print_no1 jw (.inl (by omega)) | exact print_no1 jw (.inr (.inl (by assumption))) | exact print_no1 jw (.inr (.inr (.inl (by assumption)))) | exact print_no1 jw (.inr (.inr (.inr (.inl (by assumption))))) | exact print_no1 jw (.inr (.inr (.inr (.inr (of_decide_eq_false (by assumption)))))) | exact print_yes1 jk jw (by omega) (by assumption) (by assumption) (by assumption) (of_decide_eq_true (by assumption))]; rfl) | (rw [show printF (no, k, m, f, t) = (sw, 0) from by first | exact print_kind (by omega) | exact print_no1 jw (.inl (by omega)) | exact print_no1 jw (.inr (.inl (by assumption))) | exact print_no1 jw (.inr (.inr (.inl (by assumption)))) | exact print_no1 jw (.inr (.inr (.inr (.inl (by assumption))))) | exact print_no1 jw (.inr (.inr (.inr (.inr (of_decide_eq_false (by assumption)))))) | exact print_yes1 jk jw (by omega) (by assumption) (by assumption) (by assumption) (of_decide_eq_true (by assumption))]; rfl))⟩
                exact ⟨tup2 (congrArg S hE.1) (congrArg (Value.int .i64) hE.2), hb⟩
              · intro h46
                refine L_pickF (by kernel_rfl) (L_mv (L_want (by kernel_rfl) (L_run (.pointer (some ⟨b34, 3, none⟩)) (by kernel_rfl) (by kernel_rfl) (L_want (by kernel_rfl) (L_load b34 3 q30 (by kernel_rfl) (by kernel_rfl) (cell_obj o_x6 rfl) (L_want (by kernel_rfl) (L_run (.pointer (some ⟨b1, 3, none⟩)) (by kernel_rfl) (by kernel_rfl) (L_want (by kernel_rfl) (L_load b1 3 v_f (by kernel_rfl) (by kernel_rfl) (cell_obj o_x1 rfl) (L_want (by kernel_rfl) (L_call 61 [q30, v_f] (by kernel_rfl) (by kernel_rfl) (c_equal_str q30 ((scanF no sw).1.2.2.2.1) v_f f _ r_q30.rd p_f (by omega) (by omega)) ?_)))))))))))
                rintro _ w47 ⟨rfl, hB48⟩
                replace hb := hb.trans (hB48.mono hs)
                replace hs := Nat.le_trans hs (hB48.size)
                replace o_x1 := obj_below o_x1 hB48
                replace o_x6 := obj_below o_x6 hB48
                replace p_f := p_f.below hB48
                replace r_q30 := r_q30.below hB48
                refine put_split (decide (((scanF no sw).1.2.2.2.1) = f)) ?_ ?_
                · intro h50
                  refine L_want (by kernel_rfl) (L_not true (by kernel_rfl) (L_pickF (by kernel_rfl) (L_nil (thenQ_normal (W_false (by kernel_rfl) (W_skip (thenQ_normal (W_seq (W_region (L_mv (L_as (L_as (L_nil (thenQ_normal (W_ret ?_)))))))))))))))
                  refine end_ret [.tmp 2, .tmp 3] [(S sw), (.int .i64 0)] rfl hds ⟨by kernel_rfl, by kernel_rfl, trivial⟩ ?_
                  have hE : (sw = (printF (no, k, m, f, t)).1) ∧ ((0 : Int) = (printF (no, k, m, f, t)).2) := ⟨(by first | (rw [show printF (no, k, m, f, t) = ([], 34) from by first | exact print_kind (by omega) | exact print_no1 jw (.inl (by omega)) | exact print_no1 jw (.inr (.inl (by assumption))) | exact print_no1 jw (.inr (.inr (.inl (by assumption)))) | exact print_no1 jw (.inr (.inr (.inr (.inl (by assumption))))) | exact print_no1 jw (.inr (.inr (.inr (.inr (of_decide_eq_false (by assumption)))))) | exact print_yes1 jk jw (by omega) (by assumption) (by assumption) (by assumption) (of_decide_eq_true (by assumption))]; done) | (rw [show printF (no, k, m, f, t) = (sw, 0) from by first | exact print_kind (by omega) | exact print_no1 jw (.inl (by omega)) | exact print_no1 jw (.inr (.inl (by assumption))) | exact print_no1 jw (.inr (.inr (.inl (by assumption)))) | exact print_no1 jw (.inr (.inr (.inr (.inl (by assumption))))) | exact print_no1 jw (.inr (.inr (.inr (.inr (of_decide_eq_false (by assumption)))))) | exact print_yes1 jk jw (by omega) (by assumption) (by assumption) (by assumption) (of_decide_eq_true (by assumption))]; done) | (rw [show printF (no, k, m, f, t) = ([], 34) from by first | exact print_kind (by omega) | exact print_no1 jw (.inl (by omega)) | exact print_no1 jw (.inr (.inl (by assumption))) | exact print_no1 jw (.inr (.inr (.inl (by assumption)))) | exact print_no1 jw (.inr (.inr (.inr (.inl (by assumption))))) | exact print_no1 jw (.inr (.inr (.inr (.inr (of_decide_eq_false (by assumption)))))) | exact print_yes1 jk jw (by omega) (by assumption) (by assumption) (by assumption) (of_decide_eq_true (by assumption))]; rfl) | (rw [show printF (no, k, m, f, t) = (sw, 0) from by first | exact print_kind (by omega) | exact print_no1 jw (.inl (by omega)) | exact print_no1 jw (.inr (.inl (by assumption))) | exact print_no1 jw (.inr (.inr (.inl (by assumption)))) | exact print_no1 jw (.inr (.inr (.inr (.inl (by assumption))))) | exact print_no1 jw (.inr (.inr (.inr (.inr (of_decide_eq_false (by assumption)))))) | exact print_yes1 jk jw (by omega) (by assumption) (by assumption) (by assumption) (of_decide_eq_true (by assumption))]; rfl)), (by first | (rw [show printF (no, k, m, f, t) = ([], 34) from by first | exact print_kind (by omega) | exact print_no1 jw (.inl (by omega)) | exact print_no1 jw (.inr (.inl (by assumption))) | exact print_no1 jw (.inr (.inr (.inl (by assumption)))) | exact print_no1 jw (.inr (.inr (.inr (.inl (by assumption))))) | exact print_no1 jw (.inr (.inr (.inr (.inr (of_decide_eq_false (by assumption)))))) | exact print_yes1 jk jw (by omega) (by assumption) (by assumption) (by assumption) (of_decide_eq_true (by assumption))]; done) | (rw [show printF (no, k, m, f, t) = (sw, 0) from by first | exact print_kind (by omega) | exact print_no1 jw (.inl (by omega)) | exact print_no1 jw (.inr (.inl (by assumption))) | exact print_no1 jw (.inr (.inr (.inl (by assumption)))) | exact print_no1 jw (.inr (.inr (.inr (.inl (by assumption))))) | exact print_no1 jw (.inr (.inr (.inr (.inr (of_decide_eq_false (by assumption)))))) | exact print_yes1 jk jw (by omega) (by assumption) (by assumption) (by assumption) (of_decide_eq_true (by assumption))]; done) | (rw [show printF (no, k, m, f, t) = ([], 34) from by first | exact print_kind (by omega) | exact print_no1 jw (.inl (by omega)) | exact print_no1 jw (.inr (.inl (by assumption))) | exact print_no1 jw (.inr (.inr (.inl (by assumption)))) | exact print_no1 jw (.inr (.inr (.inr (.inl (by assumption))))) | exact print_no1 jw (.inr (.inr (.inr (.inr (of_decide_eq_false (by assumption)))))) | exact print_yes1 jk jw (by omega) (by assumption) (by assumption) (by assumption) (of_decide_eq_true (by assumption))]; rfl) | (rw [show printF (no, k, m, f, t) = (sw, 0) from by first | exact print_kind (by omega) | exact print_no1 jw (.inl (by omega)) | exact print_no1 jw (.inr (.inl (by assumption))) | exact print_no1 jw (.inr (.inr (.inl (by assumption)))) | exact print_no1 jw (.inr (.inr (.inr (.inl (by assumption))))) | exact print_no1 jw (.inr (.inr (.inr (.inr (of_decide_eq_false (by assumption)))))) | exact print_yes1 jk jw (by omega) (by assumption) (by assumption) (by assumption) (of_decide_eq_true (by assumption))]; rfl))⟩
                  exact ⟨tup2 (congrArg S hE.1) (congrArg (Value.int .i64) hE.2), hb⟩
                · intro h51
                  refine L_want (by kernel_rfl) (L_not false (by kernel_rfl) (L_pickF (by kernel_rfl) (L_nil (thenQ_normal (W_true (by kernel_rfl) (W_seq (W_region (L_as (L_as (L_nil (thenQ_normal (W_ret (thenQ_ret ?_)))))))))))))
                  refine end_ret [.tmp 2, .tmp 3] [(S ([] : List UInt8)), (.int .i64 34)] rfl hds ⟨by kernel_rfl, by kernel_rfl, trivial⟩ ?_
                  have hE : (([] : List UInt8) = (printF (no, k, m, f, t)).1) ∧ ((34 : Int) = (printF (no, k, m, f, t)).2) := ⟨(by first | (rw [show printF (no, k, m, f, t) = ([], 34) from by first | exact print_kind (by omega) | exact print_no1 jw (.inl (by omega)) | exact print_no1 jw (.inr (.inl (by assumption))) | exact print_no1 jw (.inr (.inr (.inl (by assumption)))) | exact print_no1 jw (.inr (.inr (.inr (.inl (by assumption))))) | exact print_no1 jw (.inr (.inr (.inr (.inr (of_decide_eq_false (by assumption)))))) | exact print_yes1 jk jw (by omega) (by assumption) (by assumption) (by assumption) (of_decide_eq_true (by assumption))]; done) | (rw [show printF (no, k, m, f, t) = (sw, 0) from by first | exact print_kind (by omega) | exact print_no1 jw (.inl (by omega)) | exact print_no1 jw (.inr (.inl (by assumption))) | exact print_no1 jw (.inr (.inr (.inl (by assumption)))) | exact print_no1 jw (.inr (.inr (.inr (.inl (by assumption))))) | exact print_no1 jw (.inr (.inr (.inr (.inr (of_decide_eq_false (by assumption)))))) | exact print_yes1 jk jw (by omega) (by assumption) (by assumption) (by assumption) (of_decide_eq_true (by assumption))]; done) | (rw [show printF (no, k, m, f, t) = ([], 34) from by first | exact print_kind (by omega) | exact print_no1 jw (.inl (by omega)) | exact print_no1 jw (.inr (.inl (by assumption))) | exact print_no1 jw (.inr (.inr (.inl (by assumption)))) | exact print_no1 jw (.inr (.inr (.inr (.inl (by assumption))))) | exact print_no1 jw (.inr (.inr (.inr (.inr (of_decide_eq_false (by assumption)))))) | exact print_yes1 jk jw (by omega) (by assumption) (by assumption) (by assumption) (of_decide_eq_true (by assumption))]; rfl) | (rw [show printF (no, k, m, f, t) = (sw, 0) from by first | exact print_kind (by omega) | exact print_no1 jw (.inl (by omega)) | exact print_no1 jw (.inr (.inl (by assumption))) | exact print_no1 jw (.inr (.inr (.inl (by assumption)))) | exact print_no1 jw (.inr (.inr (.inr (.inl (by assumption))))) | exact print_no1 jw (.inr (.inr (.inr (.inr (of_decide_eq_false (by assumption)))))) | exact print_yes1 jk jw (by omega) (by assumption) (by assumption) (by assumption) (of_decide_eq_true (by assumption))]; rfl)), (by first | (rw [show printF (no, k, m, f, t) = ([], 34) from by first | exact print_kind (by omega) | exact print_no1 jw (.inl (by omega)) | exact print_no1 jw (.inr (.inl (by assumption))) | exact print_no1 jw (.inr (.inr (.inl (by assumption)))) | exact print_no1 jw (.inr (.inr (.inr (.inl (by assumption))))) | exact print_no1 jw (.inr (.inr (.inr (.inr (of_decide_eq_false (by assumption)))))) | exact print_yes1 jk jw (by omega) (by assumption) (by assumption) (by assumption) (of_decide_eq_true (by assumption))]; done) | (rw [show printF (no, k, m, f, t) = (sw, 0) from by first | exact print_kind (by omega) | exact print_no1 jw (.inl (by omega)) | exact print_no1 jw (.inr (.inl (by assumption))) | exact print_no1 jw (.inr (.inr (.inl (by assumption)))) | exact print_no1 jw (.inr (.inr (.inr (.inl (by assumption))))) | exact print_no1 jw (.inr (.inr (.inr (.inr (of_decide_eq_false (by assumption)))))) | exact print_yes1 jk jw (by omega) (by assumption) (by assumption) (by assumption) (of_decide_eq_true (by assumption))]; done) | (rw [show printF (no, k, m, f, t) = ([], 34) from by first | exact print_kind (by omega) | exact print_no1 jw (.inl (by omega)) | exact print_no1 jw (.inr (.inl (by assumption))) | exact print_no1 jw (.inr (.inr (.inl (by assumption)))) | exact print_no1 jw (.inr (.inr (.inr (.inl (by assumption))))) | exact print_no1 jw (.inr (.inr (.inr (.inr (of_decide_eq_false (by assumption)))))) | exact print_yes1 jk jw (by omega) (by assumption) (by assumption) (by assumption) (of_decide_eq_true (by assumption))]; rfl) | (rw [show printF (no, k, m, f, t) = (sw, 0) from by first | exact print_kind (by omega) | exact print_no1 jw (.inl (by omega)) | exact print_no1 jw (.inr (.inl (by assumption))) | exact print_no1 jw (.inr (.inr (.inl (by assumption)))) | exact print_no1 jw (.inr (.inr (.inr (.inl (by assumption))))) | exact print_no1 jw (.inr (.inr (.inr (.inr (of_decide_eq_false (by assumption)))))) | exact print_yes1 jk jw (by omega) (by assumption) (by assumption) (by assumption) (of_decide_eq_true (by assumption))]; rfl))⟩
                  exact ⟨tup2 (congrArg S hE.1) (congrArg (Value.int .i64) hE.2), hb⟩

set_option maxHeartbeats 4000000 in
set_option maxRecDepth 100000 in
theorem c_furrowref03_joined (v_l : Value) (l : List (List UInt8)) (w : World) (p_l : Rd w encStr v_l l) (hl : l.length ≤ 1073741824) (hjl : (joinF l).length ≤ 1000000000) :
    Calls Tryd.prog 74 #[v_l] w (Ret fun v w' => v = (S (joinF l)) ∧ Below w.heap.size w w') := by
  refine enter (args := [v_l]) Tryd.func74 rfl (by kernel_rfl : _ = 22) (by kernel_rfl) ?_
  have hb := Below.refl w.heap.size w
  have hs : w.heap.size ≤ w.heap.size := Nat.le_refl _
  have in_p_l := p_l
  refine W_seq (W_region (L_as (L_nil (thenQ_normal (W_seq (W_region (L_as (L_nil (thenQ_normal (W_seq (W_seq (W_region (L_as (L_nil (thenQ_normal (W_block ?_))))))))))))))))
  refine W_loop (fun m s0 w0 => ∃ (i : Nat) (a : List UInt8), (m = l.length - i) ∧ (s0.ds = []) ∧ (s0.f 0 = v_l) ∧ (s0.f 2 = (S ([] : List UInt8))) ∧ (s0.f 3 = (S a)) ∧ (s0.f 4 = (.int .i64 ((i : Nat) : Int))) ∧ (Rd w0 encStr v_l l) ∧ (Below w.heap.size w w0) ∧ (w.heap.size ≤ w0.heap.size) ∧ (i ≤ l.length) ∧ (a = joinF (l.take i))) _ ⟨0, ([] : List UInt8), rfl, by kernel_rfl, by kernel_rfl, by kernel_rfl, by kernel_rfl, by kernel_rfl, p_l, hb, hs, by omega, rfl⟩ ?_
  rintro m1 s2 w3 ⟨i, a, hm, hds, f_0, f_2, f_3, f_4, p_l, hb, hs, i1, i3⟩
  refine W_set 0 _ f_0 (W_set 2 _ f_2 (W_set 3 _ f_3 (W_set 4 _ f_4 ?_)))
  clear f_0 f_2 f_3 f_4
  have hal : a.length ≤ (joinF l).length := by rw [i3]; exact join_take_len l i
  refine W_seq (W_seq (W_region (L_mv (L_mv (L_len 40 9 (l).length v_l rfl Tryd.underlying40 (p_l).len (by kernel_rfl) (L_cmp .i64 ((i : Nat) : Int) (((l).length : Nat) : Int) (i < (l).length) rfl (cmpN_lt i ((l).length)) (by kernel_rfl) (by kernel_rfl) ?_ ?_))))))
  · intro h4
    replace h4 : i < (l).length := by omega
    refine L_nil (thenQ_normal (W_true (by kernel_rfl) (W_skip (thenQ_normal (W_seq (W_block (W_seq (W_seq (W_region (L_mv (L_cmp .i64 ((i : Nat) : Int) ((0 : Nat) : Int) (0 < i) rfl (cmpN_gt i 0) (by kernel_rfl) (by kernel_rfl) ?_ ?_)))))))))))
    · intro h5
      replace h5 : 0 < i := by omega
      refine L_nil (thenQ_normal (W_true (by kernel_rfl) (W_region (L_mv (L_sadd a ([59, 32] : List UInt8) (by first | omega | (simp only [List.length_append, List.length_cons, List.length_nil]; omega) | (simp only [bytesI, List.length_map, List.length_append, List.length_cons, List.length_nil]; omega)) (by kernel_rfl) (by kernel_rfl) (L_as (L_nil (thenQ_normal (W_region (L_mv (L_mv (L_mv ?_))))))))))))
      have hz := get_some l i (by omega); obtain ⟨x6, hx7⟩ := hz
      have hz := (p_l).at (k := 1) (fun _ => rfl) hx7
      obtain ⟨g8, off9, hl10, hc11⟩ := hz
      have hxl := join_at_len hx7
      refine L_ixaddr (k := .i64) v_l i _ g8 off9 el40 hl10 (by omega) (by kernel_rfl) (by kernel_rfl) (L_load g8 (off9 + i * 1) (S x6) (by kernel_rfl) (by kernel_rfl) (hc11 0 _ rfl) (L_sadd (a ++ ([59, 32] : List UInt8)) x6 (by first | omega | (simp only [List.length_append, List.length_cons, List.length_nil]; omega) | (simp only [bytesI, List.length_map, List.length_append, List.length_cons, List.length_nil]; omega)) (by kernel_rfl) (by kernel_rfl) (L_as (L_nil (blkQ_normal (thenQ_normal (W_region (L_mv (L_addN i 1 (by omega) (by kernel_rfl) (by kernel_rfl) (L_as (L_nil ?_)))))))))))
      refine thenQ_normal ⟨_, ?_, (i + 1), ((a ++ ([59, 32] : List UInt8)) ++ x6), rfl, hds, by kernel_rfl, by kernel_rfl, by kernel_rfl, by kernel_rfl, p_l, hb, hs, ?_, ?_⟩
      · omega
      · omega
      · rw [join_snoc (by assumption), i3]; first | (rw [if_pos (by omega)]; done) | (rw [if_neg (by omega)]; done)
    · intro h12
      replace h12 : i ≤ 0 := by omega
      refine L_nil (thenQ_normal (W_false (by kernel_rfl) (W_skip (thenQ_normal (W_region (L_mv (L_mv (L_mv ?_))))))))
      have hz := get_some l i (by omega); obtain ⟨x13, hx14⟩ := hz
      have hz := (p_l).at (k := 1) (fun _ => rfl) hx14
      obtain ⟨g15, off16, hl17, hc18⟩ := hz
      have hxl := join_at_len hx14
      refine L_ixaddr (k := .i64) v_l i _ g15 off16 el40 hl17 (by omega) (by kernel_rfl) (by kernel_rfl) (L_load g15 (off16 + i * 1) (S x13) (by kernel_rfl) (by kernel_rfl) (hc18 0 _ rfl) (L_sadd a x13 (by first | omega | (simp only [List.length_append, List.length_cons, List.length_nil]; omega) | (simp only [bytesI, List.length_map, List.length_append, List.length_cons, List.length_nil]; omega)) (by kernel_rfl) (by kernel_rfl) (L_as (L_nil (blkQ_normal (thenQ_normal (W_region (L_mv (L_addN i 1 (by omega) (by kernel_rfl) (by kernel_rfl) (L_as (L_nil ?_)))))))))))
      refine thenQ_normal ⟨_, ?_, (i + 1), (a ++ x13), rfl, hds, by kernel_rfl, by kernel_rfl, by kernel_rfl, by kernel_rfl, p_l, hb, hs, ?_, ?_⟩
      · omega
      · omega
      · rw [join_snoc (by assumption), i3]; first | (rw [if_pos (by omega)]; done) | (rw [if_neg (by omega)]; done)
  · intro h19
    replace h19 : (l).length ≤ i := by omega
    refine L_nil (thenQ_normal (W_false (by kernel_rfl) (W_exit (thenQ_exit (thenQ_exit (blkQ_exit (thenQ_normal (W_seq (W_region (L_mv (L_as (L_nil (thenQ_normal (W_ret ?_))))))))))))))
    refine end_ret [.tmp 2] [(S a)] rfl hds ⟨by kernel_rfl, trivial⟩ ?_
    have e0 : a = joinF l := by rw [i3, List.take_of_length_le (by omega)]
    exact ⟨congrArg S e0, hb⟩

set_option maxHeartbeats 4000000 in
set_option maxRecDepth 100000 in
theorem c_furrowref03_Written (no : Int) (k : Int) (m : List UInt8) (v_f : Value) (f : List (List UInt8)) (t : List UInt8) (w : World) (p_f : Rd w encStr v_f f) (hj : (joinF f).length + m.length + t.length ≤ 1000000000) (hk : 0 ≤ k ∧ k ≤ 255) (hfl : f.length ≤ 1073741824) :
    Calls Tryd.prog 62 #[(Value.agg #[(.int .i64 no), (.int .u8 k), (S m), v_f, (S t)])] w (Ret fun v w' => v = (.tuple #[(S ((writtenF (no, k, m, f, t)).1)), (.bool ((writtenF (no, k, m, f, t)).2))]) ∧ Below w.heap.size w w') := by
  refine enter (args := [(Value.agg #[(.int .i64 no), (.int .u8 k), (S m), v_f, (S t)])]) Tryd.func62 rfl (by kernel_rfl : _ = 55) (by kernel_rfl) ?_
  have hb := Below.refl w.heap.size w
  have hs : w.heap.size ≤ w.heap.size := Nat.le_refl _
  have in_p_f := p_f
  refine W_seq (W_region (L_new (fun b => .pointer (some ⟨b, 0, none⟩)) (.cells [(.int .i64 no), (.int .u8 k), (S m), v_f, (S t)].toArray 47 (0, 0)) (by kernel_rfl) (by kernel_rfl) ?_))
  intro b1 w2 hN3
  have g_x1 : w.heap.size ≤ b1 := by rw [hN3.num]; exact hs
  replace hb := hb.trans (hN3.below.mono hs)
  replace hs := Nat.le_trans hs (hN3.below.size)
  replace p_f := p_f.below hN3.below
  have o_x1 := hN3.here
  refine L_as (L_as (L_nil (thenQ_normal (W_seq (W_region (L_as (L_nil (thenQ_normal ?_))))))))
  refine W_cut (fun s0 w0 => ∃ (sb : List UInt8), (s0.ds = []) ∧ (s0.f 1 = (.pointer (some ⟨b1, 0, none⟩))) ∧ (s0.f 4 = (S sb)) ∧ (Rd w0 encStr v_f f) ∧ (w0.heap[b1]? = some (.cells [(.int .i64 no), (.int .u8 k), (S m), v_f, (S t)].toArray 47 (0, 0))) ∧ (Below w.heap.size w w0) ∧ (w.heap.size ≤ w0.heap.size) ∧ (sb = headB k m f) ∧ (0 ≤ k ∧ k ≤ 3)) ?_ ?_
  · refine W_seq (W_region (L_run (.pointer (some ⟨b1, 1, none⟩)) (by kernel_rfl) (by kernel_rfl) (L_load b1 1 (.int .u8 k) (by kernel_rfl) (by kernel_rfl) (cell_obj o_x1 rfl) (L_nil (thenQ_normal (W_block (W_seq (W_region (L_cmp .u8 k 0 (k = 0) rfl (cmp_eq k 0) (by kernel_rfl) (by kernel_rfl) ?_ ?_)))))))))
    · intro h4
      replace h4 : k = 0 := by omega
      refine L_as (L_nil (thenQ_normal (W_true (by kernel_rfl) (W_skip (blkQ_normal ?_)))))
      refine thenQ_normal ⟨([] : List UInt8), rfl, by kernel_rfl, by kernel_rfl, p_f, o_x1, hb, hs, ?_, ?_⟩
      · unfold headB; first | (rw [if_pos (by omega)]; done) | (rw [if_neg (by omega), if_pos (by omega)]; done) | (rw [if_neg (by omega), if_neg (by omega), if_pos (by omega)]; done) | (rw [if_neg (by omega), if_neg (by omega), if_neg (by omega)]; rfl)
      · omega
    · intro h5
      replace h5 : k ≠ 0 := by omega
      refine L_as (L_nil (thenQ_normal (W_false (by kernel_rfl) (W_seq (W_region (L_cmp .u8 k 1 (k = 1) rfl (cmp_eq k 1) (by kernel_rfl) (by kernel_rfl) ?_ ?_))))))
      · intro h6
        replace h6 : k = 1 := by omega
        refine L_as (L_nil (thenQ_normal (W_true (by kernel_rfl) (W_region (L_run (.pointer (some ⟨b1, 3, none⟩)) (by kernel_rfl) (by kernel_rfl) (L_load b1 3 v_f (by kernel_rfl) (by kernel_rfl) (cell_obj o_x1 rfl) (L_call 74 [v_f] (by kernel_rfl) (by kernel_rfl) (c_furrowref03_joined v_f f _ p_f (by omega) (by omega)) ?_)))))))
        rintro _ w7 ⟨rfl, hB8⟩
        replace hb := hb.trans (hB8.mono hs)
        replace hs := Nat.le_trans hs (hB8.size)
        replace o_x1 := obj_below o_x1 hB8
        replace p_f := p_f.below hB8
        refine L_as (L_nil (blkQ_normal ?_))
        refine thenQ_normal ⟨(joinF f), rfl, by kernel_rfl, by kernel_rfl, p_f, o_x1, hb, hs, ?_, ?_⟩
        · unfold headB; first | (rw [if_pos (by omega)]; done) | (rw [if_neg (by omega), if_pos (by omega)]; done) | (rw [if_neg (by omega), if_neg (by omega), if_pos (by omega)]; done) | (rw [if_neg (by omega), if_neg (by omega), if_neg (by omega)]; rfl)
        · omega
      · intro h10
        replace h10 : k ≠ 1 := by omega
        refine L_as (L_nil (thenQ_normal (W_false (by kernel_rfl) (W_seq (W_region (L_cmp .u8 k 2 (k = 2) rfl (cmp_eq k 2) (by kernel_rfl) (by kernel_rfl) ?_ ?_))))))
        · intro h11
          replace h11 : k = 2 := by omega
          refine L_as (L_nil (thenQ_normal (W_true (by kernel_rfl) (W_region (L_run (.pointer (some ⟨b1, 2, none⟩)) (by kernel_rfl) (by kernel_rfl) (L_load b1 2 (S m) (by kernel_rfl) (by kernel_rfl) (cell_obj o_x1 rfl) (L_sadd ([64] : List UInt8) m (by first | omega | (simp only [List.length_append, List.length_cons, List.length_nil]; omega) | (simp only [bytesI, List.length_map, List.length_append, List.length_cons, List.length_nil]; omega)) (by kernel_rfl) (by kernel_rfl) (L_sadd (([64] : List UInt8) ++ m) ([58] : List UInt8) (by first | omega | (simp only [List.length_append, List.length_cons, List.length_nil]; omega) | (simp only [bytesI, List.length_map, List.length_append, List.length_cons, List.length_nil]; omega)) (by kernel_rfl) (by kernel_rfl) (L_as (L_nil (blkQ_normal ?_)))))))))))
          refine thenQ_normal ⟨((([64] : List UInt8) ++ m) ++ ([58] : List UInt8)), rfl, by kernel_rfl, by kernel_rfl, p_f, o_x1, hb, hs, ?_, ?_⟩
          · unfold headB; first | (rw [if_pos (by omega)]; done) | (rw [if_neg (by omega), if_pos (by omega)]; done) | (rw [if_neg (by omega), if_neg (by omega), if_pos (by omega)]; done) | (rw [if_neg (by omega), if_neg (by omega), if_neg (by omega)]; rfl)
          · omega
        · intro h12
          replace h12 : k ≠ 2 := by omega
          refine L_as (L_nil (thenQ_normal (W_false (by kernel_rfl) (W_seq (W_region (L_cmp .u8 k 3 (k = 3) rfl (cmp_eq k 3) (by kernel_rfl) (by kernel_rfl) ?_ ?_))))))
          · intro h13
            replace h13 : k = 3 := by omega
            refine L_as (L_nil (thenQ_normal (W_true (by kernel_rfl) (W_region (L_as (L_nil (blkQ_normal ?_)))))))
            refine thenQ_normal ⟨([35, 32, 64, 109, 105, 115, 115, 105, 110, 103, 58] : List UInt8), rfl, by kernel_rfl, by kernel_rfl, p_f, o_x1, hb, hs, ?_, ?_⟩
            · unfold headB; first | (rw [if_pos (by omega)]; done) | (rw [if_neg (by omega), if_pos (by omega)]; done) | (rw [if_neg (by omega), if_neg (by omega), if_pos (by omega)]; done) | (rw [if_neg (by omega), if_neg (by omega), if_neg (by omega)]; rfl)
            · omega
          · intro h14
            replace h14 : k ≠ 3 := by omega
            refine L_as (L_nil (thenQ_normal (W_false (by kernel_rfl) (W_seq (W_region (L_as (L_as (L_nil (thenQ_normal (W_ret (blkQ_ret (thenQ_ret ?_))))))))))))
            refine end_ret [.tmp 2, .tmp 3] [(S ([] : List UInt8)), (.bool false)] rfl rfl ⟨by kernel_rfl, by kernel_rfl, trivial⟩ ?_
            have hE : (([] : List UInt8) = (writtenF (no, k, m, f, t)).1) ∧ (false = (writtenF (no, k, m, f, t)).2) := ⟨(by first | (rw [written_no (by omega)]; done) | (rw [written_yes jk jw]; done)), (by first | (rw [written_no (by omega)]; done) | (rw [written_yes jk jw]; done))⟩
            exact ⟨tup2 (congrArg S hE.1) (congrArg Value.bool hE.2), hb⟩
  · rintro s15 w16 ⟨sb, hds, f_1, f_4, p_f, o_x1, hb, hs, jh, jk⟩
    refine W_set 1 _ f_1 (W_set 4 _ f_4 ?_)
    clear f_1 f_4
    have hhl : sb.length ≤ (joinF f).length + m.length + 20 := by rw [jh]; exact headB_len
    refine W_cut (fun s0 w0 => ∃ (sc : List UInt8), (s0.ds = []) ∧ (s0.f 1 = (.pointer (some ⟨b1, 0, none⟩))) ∧ (s0.f 4 = (S sc)) ∧ (Rd w0 encStr v_f f) ∧ (w0.heap[b1]? = some (.cells [(.int .i64 no), (.int .u8 k), (S m), v_f, (S t)].toArray 47 (0, 0))) ∧ (Below w.heap.size w w0) ∧ (w.heap.size ≤ w0.heap.size) ∧ (sc = bodyF k m f)) ?_ ?_
    · refine W_seq (W_region (L_run (.pointer (some ⟨b1, 1, none⟩)) (by kernel_rfl) (by kernel_rfl) (L_load b1 1 (.int .u8 k) (by kernel_rfl) (by kernel_rfl) (cell_obj o_x1 rfl) (L_cmp .u8 k 2 (k = 2) rfl (cmp_eq k 2) (by kernel_rfl) (by kernel_rfl) ?_ ?_))))
      · intro h17
        replace h17 : k = 2 := by omega
        refine L_mv (L_skip (by kernel_rfl) (L_skip (by kernel_rfl) (L_skip (by kernel_rfl) (L_pickT (by kernel_rfl) (L_mv (L_want (by kernel_rfl) (L_run (.pointer (some ⟨b1, 3, none⟩)) (by kernel_rfl) (by kernel_rfl) (L_want (by kernel_rfl) (L_load b1 3 v_f (by kernel_rfl) (by kernel_rfl) (cell_obj o_x1 rfl) (L_want (by kernel_rfl) (L_len 40 9 (f).length v_f rfl Tryd.underlying40 (p_f).len (by kernel_rfl) (L_want (by kernel_rfl) (L_cmp .i64 (((f).length : Nat) : Int) ((0 : Nat) : Int) (0 < (f).length) rfl (cmpN_gt ((f).length) 0) (by kernel_rfl) (by kernel_rfl) ?_ ?_)))))))))))))
        · intro h18
          replace h18 : 0 < (f).length := by omega
          refine L_pickT (by kernel_rfl) (L_nil (thenQ_normal (W_true (by kernel_rfl) (W_region (L_mv (L_run (.pointer (some ⟨b1, 3, none⟩)) (by kernel_rfl) (by kernel_rfl) (L_load b1 3 v_f (by kernel_rfl) (by kernel_rfl) (cell_obj o_x1 rfl) (L_call 74 [v_f] (by kernel_rfl) (by kernel_rfl) (c_furrowref03_joined v_f f _ p_f (by omega) (by omega)) ?_))))))))
          rintro _ w19 ⟨rfl, hB20⟩
          replace hb := hb.trans (hB20.mono hs)
          replace hs := Nat.le_trans hs (hB20.size)
          replace o_x1 := obj_below o_x1 hB20
          replace p_f := p_f.below hB20
          refine L_sadd ([32] : List UInt8) (joinF f) (by first | omega | (simp only [List.length_append, List.length_cons, List.length_nil]; omega) | (simp only [bytesI, List.length_map, List.length_append, List.length_cons, List.length_nil]; omega)) (by kernel_rfl) (by kernel_rfl) (L_sadd sb (([32] : List UInt8) ++ joinF f) (by first | omega | (simp only [List.length_append, List.length_cons, List.length_nil]; omega) | (simp only [bytesI, List.length_map, List.length_append, List.length_cons, List.length_nil]; omega)) (by kernel_rfl) (by kernel_rfl) (L_as (L_nil ?_)))
          refine thenQ_normal ⟨(sb ++ (([32] : List UInt8) ++ joinF f)), hds, by kernel_rfl, by kernel_rfl, p_f, o_x1, hb, hs, ?_⟩
          first | exact body_more (by omega) (by omega) jh | exact body_same (by omega) jh
        · intro h22
          replace h22 : (f).length ≤ 0 := by omega
          refine L_pickT (by kernel_rfl) (L_nil (thenQ_normal (W_false (by kernel_rfl) (W_skip ?_))))
          refine thenQ_normal ⟨sb, hds, by kernel_rfl, by kernel_rfl, p_f, o_x1, hb, hs, ?_⟩
          first | exact body_more (by omega) (by omega) jh | exact body_same (by omega) jh
      · intro h23
        replace h23 : k ≠ 2 := by omega
        refine L_mv (L_want (by kernel_rfl) (L_run (.pointer (some ⟨b1, 1, none⟩)) (by kernel_rfl) (by kernel_rfl) (L_want (by kernel_rfl) (L_load b1 1 (.int .u8 k) (by kernel_rfl) (by kernel_rfl) (cell_obj o_x1 rfl) (L_want (by kernel_rfl) (L_cmp .u8 k 3 (k = 3) rfl (cmp_eq k 3) (by kernel_rfl) (by kernel_rfl) ?_ ?_))))))
        · intro h24
          replace h24 : k = 3 := by omega
          refine L_pickF (by kernel_rfl) (L_mv (L_want (by kernel_rfl) (L_run (.pointer (some ⟨b1, 3, none⟩)) (by kernel_rfl) (by kernel_rfl) (L_want (by kernel_rfl) (L_load b1 3 v_f (by kernel_rfl) (by kernel_rfl) (cell_obj o_x1 rfl) (L_want (by kernel_rfl) (L_len 40 9 (f).length v_f rfl Tryd.underlying40 (p_f).len (by kernel_rfl) (L_want (by kernel_rfl) (L_cmp .i64 (((f).length : Nat) : Int) ((0 : Nat) : Int) (0 < (f).length) rfl (cmpN_gt ((f).length) 0) (by kernel_rfl) (by kernel_rfl) ?_ ?_)))))))))
          · intro h25
            replace h25 : 0 < (f).length := by omega
            refine L_pickT (by kernel_rfl) (L_nil (thenQ_normal (W_true (by kernel_rfl) (W_region (L_mv (L_run (.pointer (some ⟨b1, 3, none⟩)) (by kernel_rfl) (by kernel_rfl) (L_load b1 3 v_f (by kernel_rfl) (by kernel_rfl) (cell_obj o_x1 rfl) (L_call 74 [v_f] (by kernel_rfl) (by kernel_rfl) (c_furrowref03_joined v_f f _ p_f (by omega) (by omega)) ?_))))))))
            rintro _ w26 ⟨rfl, hB27⟩
            replace hb := hb.trans (hB27.mono hs)
            replace hs := Nat.le_trans hs (hB27.size)
            replace o_x1 := obj_below o_x1 hB27
            replace p_f := p_f.below hB27
            refine L_sadd ([32] : List UInt8) (joinF f) (by first | omega | (simp only [List.length_append, List.length_cons, List.length_nil]; omega) | (simp only [bytesI, List.length_map, List.length_append, List.length_cons, List.length_nil]; omega)) (by kernel_rfl) (by kernel_rfl) (L_sadd sb (([32] : List UInt8) ++ joinF f) (by first | omega | (simp only [List.length_append, List.length_cons, List.length_nil]; omega) | (simp only [bytesI, List.length_map, List.length_append, List.length_cons, List.length_nil]; omega)) (by kernel_rfl) (by kernel_rfl) (L_as (L_nil ?_)))
            refine thenQ_normal ⟨(sb ++ (([32] : List UInt8) ++ joinF f)), hds, by kernel_rfl, by kernel_rfl, p_f, o_x1, hb, hs, ?_⟩
            first | exact body_more (by omega) (by omega) jh | exact body_same (by omega) jh
          · intro h29
            replace h29 : (f).length ≤ 0 := by omega
            refine L_pickT (by kernel_rfl) (L_nil (thenQ_normal (W_false (by kernel_rfl) (W_skip ?_))))
            refine thenQ_normal ⟨sb, hds, by kernel_rfl, by kernel_rfl, p_f, o_x1, hb, hs, ?_⟩
            first | exact body_more (by omega) (by omega) jh | exact body_same (by omega) jh
        · intro h30
          replace h30 : k ≠ 3 := by omega
          refine L_pickF (by kernel_rfl) (L_mv (L_skip (by kernel_rfl) (L_skip (by kernel_rfl) (L_skip (by kernel_rfl) (L_skip (by kernel_rfl) (L_pickF (by kernel_rfl) (L_nil (thenQ_normal (W_false (by kernel_rfl) (W_skip ?_))))))))))
          refine thenQ_normal ⟨sb, hds, by kernel_rfl, by kernel_rfl, p_f, o_x1, hb, hs, ?_⟩
          first | exact body_more (by omega) (by omega) jh | exact body_same (by omega) jh
    · rintro s31 w32 ⟨sc, hds, f_1, f_4, p_f, o_x1, hb, hs, jb⟩
      refine W_set 1 _ f_1 (W_set 4 _ f_4 ?_)
      clear f_1 f_4
      have hbl : sc.length ≤ (joinF f).length + m.length + 20 := by rw [jb]; exact body_len
      refine W_cut (fun s0 w0 => ∃ (sw : List UInt8), (s0.ds = []) ∧ (s0.f 4 = (S sw)) ∧ (Rd w0 encStr v_f f) ∧ (w0.heap[b1]? = some (.cells [(.int .i64 no), (.int .u8 k), (S m), v_f, (S t)].toArray 47 (0, 0))) ∧ (Below w.heap.size w w0) ∧ (w.heap.size ≤ w0.heap.size) ∧ (sw = writF (no, k, m, f, t))) ?_ ?_
      · refine W_seq (W_region (L_run (.pointer (some ⟨b1, 4, none⟩)) (by kernel_rfl) (by kernel_rfl) (L_load b1 4 (S t) (by kernel_rfl) (by kernel_rfl) (cell_obj o_x1 rfl) (L_sne t ([] : List UInt8) rfl (by kernel_rfl) (by kernel_rfl) ?_ ?_))))
        · intro h33
          refine L_nil (thenQ_normal (W_true (by kernel_rfl) (W_seq (W_seq (W_region (L_mv (L_sne sc ([] : List UInt8) rfl (by kernel_rfl) (by kernel_rfl) ?_ ?_)))))))
          · intro h34
            refine L_nil (thenQ_normal (W_true (by kernel_rfl) (W_region (L_mv (L_sadd sc ([32] : List UInt8) (by first | omega | (simp only [List.length_append, List.length_cons, List.length_nil]; omega) | (simp only [bytesI, List.length_map, List.length_append, List.length_cons, List.length_nil]; omega)) (by kernel_rfl) (by kernel_rfl) (L_as (L_nil (thenQ_normal (W_region (L_mv (L_run (.pointer (some ⟨b1, 4, none⟩)) (by kernel_rfl) (by kernel_rfl) (L_load b1 4 (S t) (by kernel_rfl) (by kernel_rfl) (cell_obj o_x1 rfl) (L_sadd ([35, 32] : List UInt8) t (by first | omega | (simp only [List.length_append, List.length_cons, List.length_nil]; omega) | (simp only [bytesI, List.length_map, List.length_append, List.length_cons, List.length_nil]; omega)) (by kernel_rfl) (by kernel_rfl) (L_sadd (sc ++ ([32] : List UInt8)) (([35, 32] : List UInt8) ++ t) (by first | omega | (simp only [List.length_append, List.length_cons, List.length_nil]; omega) | (simp only [bytesI, List.length_map, List.length_append, List.length_cons, List.length_nil]; omega)) (by kernel_rfl) (by kernel_rfl) (L_as (L_nil ?_))))))))))))))))
            refine thenQ_normal ⟨((sc ++ ([32] : List UInt8)) ++ (([35, 32] : List UInt8) ++ t)), hds, by kernel_rfl, p_f, o_x1, hb, hs, ?_⟩
            first | exact writ_none jb (by assumption) | exact writ_bare jb (by assumption) (by assumption) | exact writ_both jb (by assumption) (by assumption)
          · intro h35
            refine L_nil (thenQ_normal (W_false (by kernel_rfl) (W_skip (thenQ_normal (W_region (L_mv (L_run (.pointer (some ⟨b1, 4, none⟩)) (by kernel_rfl) (by kernel_rfl) (L_load b1 4 (S t) (by kernel_rfl) (by kernel_rfl) (cell_obj o_x1 rfl) (L_sadd ([35, 32] : List UInt8) t (by first | omega | (simp only [List.length_append, List.length_cons, List.length_nil]; omega) | (simp only [bytesI, List.length_map, List.length_append, List.length_cons, List.length_nil]; omega)) (by kernel_rfl) (by kernel_rfl) (L_sadd sc (([35, 32] : List UInt8) ++ t) (by first | omega | (simp only [List.length_append, List.length_cons, List.length_nil]; omega) | (simp only [bytesI, List.length_map, List.length_append, List.length_cons, List.length_nil]; omega)) (by kernel_rfl) (by kernel_rfl) (L_as (L_nil ?_))))))))))))
            refine thenQ_normal ⟨(sc ++ (([35, 32] : List UInt8) ++ t)), hds, by kernel_rfl, p_f, o_x1, hb, hs, ?_⟩
            first | exact writ_none jb (by assumption) | exact writ_bare jb (by assumption) (by assumption) | exact writ_both jb (by assumption) (by assumption)
        · intro h36
          refine L_nil (thenQ_normal (W_false (by kernel_rfl) (W_skip ?_)))
          refine thenQ_normal ⟨sc, hds, by kernel_rfl, p_f, o_x1, hb, hs, ?_⟩
          first | exact writ_none jb (by assumption) | exact writ_bare jb (by assumption) (by assumption) | exact writ_both jb (by assumption) (by assumption)
      · rintro s37 w38 ⟨sw, hds, f_4, p_f, o_x1, hb, hs, jw⟩
        refine W_set 4 _ f_4 ?_
        clear f_4
        refine W_seq (W_region (L_mv (L_as (L_as (L_nil (thenQ_normal (W_ret ?_)))))))
        refine end_ret [.tmp 2, .tmp 3] [(S sw), (.bool true)] rfl hds ⟨by kernel_rfl, by kernel_rfl, trivial⟩ ?_
        have hE : (sw = (writtenF (no, k, m, f, t)).1) ∧ (true = (writtenF (no, k, m, f, t)).2) := ⟨(by first | (rw [written_no (by omega)]; done) | (rw [written_yes jk jw]; done)), (by first | (rw [written_no (by omega)]; done) | (rw [written_yes jk jw]; done))⟩
        exact ⟨tup2 (congrArg S hE.1) (congrArg Value.bool hE.2), hb⟩

set_option maxHeartbeats 4000000 in
set_option maxRecDepth 100000 in
theorem c_furrowref03_Print (no : Int) (k : Int) (m : List UInt8) (v_f : Value) (f : List (List UInt8)) (t : List UInt8) (w : World) (p_f : Rd w encStr v_f f) (hj : (joinF f).length + m.length + t.length ≤ 1000000000) (hk : 0 ≤ k ∧ k ≤ 255) (hfl : f.length ≤ 1073741824) :
    Calls Tryd.prog 42 #[(Value.agg #[(.int .i64 no), (.int .u8 k), (S m), v_f, (S t)])] w (Ret fun v w' => v = (.tuple #[(S ((printF (no, k, m, f, t)).1)), (.int .i64 ((printF (no, k, m, f, t)).2))]) ∧ Below w.heap.size w w') := by
  refine enter (args := [(Value.agg #[(.int .i64 no), (.int .u8 k), (S m), v_f, (S t)])]) Tryd.func42 rfl (by kernel_rfl : _ = 31) (by kernel_rfl) ?_
  have hb := Below.refl w.heap.size w
  have hs : w.heap.size ≤ w.heap.size := Nat.le_refl _
  have in_p_f := p_f
  have hwz : (writtenF (no, k, m, f, t)).1.length ≤ 1000000100 := written_len hj
  have hfz := scan_flen no (writtenF (no, k, m, f, t)).1
  refine W_seq (W_region (L_new (fun b => .pointer (some ⟨b, 0, none⟩)) (.cells [(.int .i64 no), (.int .u8 k), (S m), v_f, (S t)].toArray 47 (0, 0)) (by kernel_rfl) (by kernel_rfl) ?_))
  intro b1 w2 hN3
  have g_x1 : w.heap.size ≤ b1 := by rw [hN3.num]; exact hs
  replace hb := hb.trans (hN3.below.mono hs)
  replace hs := Nat.le_trans hs (hN3.below.size)
  replace p_f := p_f.below hN3.below
  have o_x1 := hN3.here
  refine L_as (L_as (L_nil (thenQ_normal (W_seq (W_region (L_loadA b1 0 [(.int .i64 no), (.int .u8 k), (S m), v_f, (S t)] (by kernel_rfl) (by kernel_rfl) (by kernel_rfl) (cells_at o_x1 0 (by kernel_rfl)) (L_call 62 [(Value.agg #[(.int .i64 no), (.int .u8 k), (S m), v_f, (S t)])] (by kernel_rfl) (by kernel_rfl) (c_furrowref03_Written no k m v_f f t _ p_f (by omega) (by omega) (by omega)) ?_)))))))
  rintro _ w4 ⟨rfl, hB5⟩
  replace hb := hb.trans (hB5.mono hs)
  replace hs := Nat.le_trans hs (hB5.size)
  replace o_x1 := obj_below o_x1 hB5
  replace p_f := p_f.below hB5
  refine L_mv (L_run (S ((writtenF (no, k, m, f, t)).1)) (by kernel_rfl) (by kernel_rfl) (L_run (.bool ((writtenF (no, k, m, f, t)).2)) (by kernel_rfl) (by kernel_rfl) (put_split ((writtenF (no, k, m, f, t)).2) ?_ ?_)))
  · intro h7
    refine L_as (L_as (L_nil (thenQ_normal (W_seq (W_seq (W_region (L_mv (L_not true (by kernel_rfl) (L_nil (thenQ_normal (W_false (by kernel_rfl) (W_skip (thenQ_normal (W_seq (W_seq (W_region (L_run (.pointer (some ⟨b1, 0, none⟩)) (by kernel_rfl) (by kernel_rfl) (L_load b1 0 (.int .i64 no) (by kernel_rfl) (by kernel_rfl) (cell_obj o_x1 rfl) (L_mv (L_call 28 [(.int .i64 no), (S ((writtenF (no, k, m, f, t)).1))] (by kernel_rfl) (by kernel_rfl) (c_furrowref03_Scan no ((writtenF (no, k, m, f, t)).1) _ (by omega)) ?_))))))))))))))))))))
    rintro _ w9 ⟨q8, rfl, r_q8, hB10⟩
    replace r_q8 := r_q8.base hs
    replace hb := hb.trans (hB10.mono hs)
    replace hs := Nat.le_trans hs (hB10.size)
    replace o_x1 := obj_below o_x1 hB10
    replace p_f := p_f.below hB10
    have := scan_err no ((writtenF (no, k, m, f, t)).1)
    refine L_mv (L_run (Value.agg #[(.int .i64 ((scanF no ((writtenF (no, k, m, f, t)).1)).1.1)), (.int .u8 ((scanF no ((writtenF (no, k, m, f, t)).1)).1.2.1)), (S ((scanF no ((writtenF (no, k, m, f, t)).1)).1.2.2.1)), q8, (S ((scanF no ((writtenF (no, k, m, f, t)).1)).1.2.2.2.2))]) (by kernel_rfl) (by kernel_rfl) (L_run (.int .i64 ((scanF no ((writtenF (no, k, m, f, t)).1)).2)) (by kernel_rfl) (by kernel_rfl) (L_new (fun b => .pointer (some ⟨b, 0, none⟩)) (.cells [(.int .i64 0), (.int .u8 0), (S ([] : List UInt8)), (.slice none 0 0), (S ([] : List UInt8))].toArray 47 (0, 0)) (by kernel_rfl) (by kernel_rfl) ?_)))
    intro b12 w13 hN14
    have ne_x1_x6 : b1 ≠ b12 := by have := (obj_lt o_x1); have := hN14.num; omega
    have ne_x6_x1 := ne_x1_x6.symm
    have g_x6 : w.heap.size ≤ b12 := by rw [hN14.num]; exact hs
    replace hb := hb.trans (hN14.below.mono hs)
    replace hs := Nat.le_trans hs (hN14.below.size)
    replace o_x1 := obj_below o_x1 hN14.below
    replace p_f := p_f.below hN14.below
    replace r_q8 := r_q8.below hN14.below
    have o_x6 := hN14.here
    refine L_storeA b12 0 [(.int .i64 ((scanF no ((writtenF (no, k, m, f, t)).1)).1.1)), (.int .u8 ((scanF no ((writtenF (no, k, m, f, t)).1)).1.2.1)), (S ((scanF no ((writtenF (no, k, m, f, t)).1)).1.2.2.1)), q8, (S ((scanF no ((writtenF (no, k, m, f, t)).1)).1.2.2.2.2))] [(.int .i64 0), (.int .u8 0), (S ([] : List UInt8)), (.slice none 0 0), (S ([] : List UInt8))] [(.int .i64 ((scanF no ((writtenF (no, k, m, f, t)).1)).1.1)), (.int .u8 ((scanF no ((writtenF (no, k, m, f, t)).1)).1.2.1)), (S ((scanF no ((writtenF (no, k, m, f, t)).1)).1.2.2.1)), q8, (S ((scanF no ((writtenF (no, k, m, f, t)).1)).1.2.2.2.2))] 47 (by kernel_rfl) (by kernel_rfl) (allc rfl (allc rfl (allc rfl (allc r_q8.one (allc rfl rfl))))) (by kernel_rfl) o_x6 (by kernel_rfl) rfl ?_
    intro w15 hW16
    replace hb := hb.trans (hW16.below g_x6)
    replace hs := Nat.le_trans hs (Nat.le_of_eq hW16.size.symm)
    have n_o_x1 := obj_wrote o_x1 hW16 ne_x1_x6
    have n_p_f := in_p_f.below hb
    have n_r_q8 := r_q8.wrote hW16 (r_q8.ne o_x6 (by simp))
    replace o_x1 := n_o_x1; clear n_o_x1
    replace p_f := n_p_f; clear n_p_f
    replace r_q8 := n_r_q8; clear n_r_q8
    replace o_x6 := hW16.here
    refine L_as (L_nil (thenQ_normal (W_seq (W_region (L_mv (L_cmp .i64 ((scanF no ((writtenF (no, k, m, f, t)).1)).2) 0 ((scanF no ((writtenF (no, k, m, f, t)).1)).2 ≠ 0) rfl (cmp_ne ((scanF no ((writtenF (no, k, m, f, t)).1)).2) 0) (by kernel_rfl) (by kernel_rfl) ?_ ?_))))))
    · intro h17
      replace h17 : (scanF no ((writtenF (no, k, m, f, t)).1)).2 ≠ 0 := by omega
      refine L_mv (L_skip (by kernel_rfl) (L_skip (by kernel_rfl) (L_skip (by kernel_rfl) (L_skip (by kernel_rfl) (L_pickT (by kernel_rfl) (L_nil (thenQ_normal (W_true (by kernel_rfl) (W_seq (W_region (L_as (L_as (L_nil (thenQ_normal (W_ret (thenQ_ret ?_))))))))))))))))
      refine end_ret [.tmp 2, .tmp 3] [(S ([] : List UInt8)), (.int .i64 34)] rfl rfl ⟨by kernel_rfl, by kernel_rfl, trivial⟩ ?_
      have hE : (([] : List UInt8) = (printF (no, k, m, f, t)).1) ∧ ((34 : Int) = (printF (no, k, m, f, t)).2) := ⟨(by first | (rw [print_w0 (by assumption)]; done) | (rw [print_w1 (by assumption) (.inl (by omega))]; done) | (rw [print_w1 (by assumption) (.inr (of_decide_eq_false (by assumption)))]; done) | (rw [print_w2 (by assumption) (by omega) (of_decide_eq_true (by assumption))]; done)), (by first | (rw [print_w0 (by assumption)]; done) | (rw [print_w1 (by assumption) (.inl (by omega))]; done) | (rw [print_w1 (by assumption) (.inr (of_decide_eq_false (by assumption)))]; done) | (rw [print_w2 (by assumption) (by omega) (of_decide_eq_true (by assumption))]; done))⟩
      exact ⟨tup2 (congrArg S hE.1) (congrArg (Value.int .i64) hE.2), hb⟩
    · intro h18
      replace h18 : (scanF no ((writtenF (no, k, m, f, t)).1)).2 = 0 := by omega
      refine L_mv (L_want (by kernel_rfl) (L_loadA b12 0 [(.int .i64 ((scanF no ((writtenF (no, k, m, f, t)).1)).1.1)), (.int .u8 ((scanF no ((writtenF (no, k, m, f, t)).1)).1.2.1)), (S ((scanF no ((writtenF (no, k, m, f, t)).1)).1.2.2.1)), q8, (S ((scanF no ((writtenF (no, k, m, f, t)).1)).1.2.2.2.2))] (by kernel_rfl) (by kernel_rfl) (by kernel_rfl) (cells_at o_x6 0 (by kernel_rfl)) (L_want (by kernel_rfl) (L_loadA b1 0 [(.int .i64 no), (.int .u8 k), (S m), v_f, (S t)] (by kernel_rfl) (by kernel_rfl) (by kernel_rfl) (cells_at o_x1 0 (by kernel_rfl)) (L_want (by kernel_rfl) (L_call 29 [(Value.agg #[(.int .i64 ((scanF no ((writtenF (no, k, m, f, t)).1)).1.1)), (.int .u8 ((scanF no ((writtenF (no, k, m, f, t)).1)).1.2.1)), (S ((scanF no ((writtenF (no, k, m, f, t)).1)).1.2.2.1)), q8, (S ((scanF no ((writtenF (no, k, m, f, t)).1)).1.2.2.2.2))]), (Value.agg #[(.int .i64 no), (.int .u8 k), (S m), v_f, (S t)])] (by kernel_rfl) (by kernel_rfl) (c_furrowref03_Same ((scanF no ((writtenF (no, k, m, f, t)).1)).1.1) ((scanF no ((writtenF (no, k, m, f, t)).1)).1.2.1) ((scanF no ((writtenF (no, k, m, f, t)).1)).1.2.2.1) q8 ((scanF no ((writtenF (no, k, m, f, t)).1)).1.2.2.2.1) ((scanF no ((writtenF (no, k, m, f, t)).1)).1.2.2.2.2) no k m v_f f t _ r_q8.rd p_f (by omega) (by omega)) ?_))))))
      rintro _ w19 ⟨rfl, hB20⟩
      replace hb := hb.trans (hB20.mono hs)
      replace hs := Nat.le_trans hs (hB20.size)
      replace o_x1 := obj_below o_x1 hB20
      replace o_x6 := obj_below o_x6 hB20
      replace p_f := p_f.below hB20
      replace r_q8 := r_q8.below hB20
      refine put_split (decide (((((scanF no ((writtenF (no, k, m, f, t)).1)).1.1), ((scanF no ((writtenF (no, k, m, f, t)).1)).1.2.1), ((scanF no ((writtenF (no, k, m, f, t)).1)).1.2.2.1), ((scanF no ((writtenF (no, k, m, f, t)).1)).1.2.2.2.1), ((scanF no ((writtenF (no, k, m, f, t)).1)).1.2.2.2.2)) : LineD) = ((no, k, m, f, t) : LineD))) ?_ ?_
      · intro h22
        refine L_want (by kernel_rfl) (L_not true (by kernel_rfl) (L_pickF (by kernel_rfl) (L_nil (thenQ_normal (W_false (by kernel_rfl) (W_skip (thenQ_normal (W_seq (W_region (L_mv (L_as (L_as (L_nil (thenQ_normal (W_ret ?_)))))))))))))))
        refine end_ret [.tmp 2, .tmp 3] [(S ((writtenF (no, k, m, f, t)).1)), (.int .i64 0)] rfl rfl ⟨by kernel_rfl, by kernel_rfl, trivial⟩ ?_
        have hE : ((writtenF (no, k, m, f, t)).1 = (printF (no, k, m, f, t)).1) ∧ ((0 : Int) = (printF (no, k, m, f, t)).2) := ⟨(by first | (rw [print_w0 (by assumption)]; done) | (rw [print_w1 (by assumption) (.inl (by omega))]; done) | (rw [print_w1 (by assumption) (.inr (of_decide_eq_false (by assumption)))]; done) | (rw [print_w2 (by assumption) (by omega) (of_decide_eq_true (by assumption))]; done)), (by first | (rw [print_w0 (by assumption)]; done) | (rw [print_w1 (by assumption) (.inl (by omega))]; done) | (rw [print_w1 (by assumption) (.inr (of_decide_eq_false (by assumption)))]; done) | (rw [print_w2 (by assumption) (by omega) (of_decide_eq_true (by assumption))]; done))⟩
        exact ⟨tup2 (congrArg S hE.1) (congrArg (Value.int .i64) hE.2), hb⟩
      · intro h23
        refine L_want (by kernel_rfl) (L_not false (by kernel_rfl) (L_pickF (by kernel_rfl) (L_nil (thenQ_normal (W_true (by kernel_rfl) (W_seq (W_region (L_as (L_as (L_nil (thenQ_normal (W_ret (thenQ_ret ?_)))))))))))))
        refine end_ret [.tmp 2, .tmp 3] [(S ([] : List UInt8)), (.int .i64 34)] rfl rfl ⟨by kernel_rfl, by kernel_rfl, trivial⟩ ?_
        have hE : (([] : List UInt8) = (printF (no, k, m, f, t)).1) ∧ ((34 : Int) = (printF (no, k, m, f, t)).2) := ⟨(by first | (rw [print_w0 (by assumption)]; done) | (rw [print_w1 (by assumption) (.inl (by omega))]; done) | (rw [print_w1 (by assumption) (.inr (of_decide_eq_false (by assumption)))]; done) | (rw [print_w2 (by assumption) (by omega) (of_decide_eq_true (by assumption))]; done)), (by first | (rw [print_w0 (by assumption)]; done) | (rw [print_w1 (by assumption) (.inl (by omega))]; done) | (rw [print_w1 (by assumption) (.inr (of_decide_eq_false (by assumption)))]; done) | (rw [print_w2 (by assumption) (by omega) (of_decide_eq_true (by assumption))]; done))⟩
        exact ⟨tup2 (congrArg S hE.1) (congrArg (Value.int .i64) hE.2), hb⟩
  · intro h24
    refine L_as (L_as (L_nil (thenQ_normal (W_seq (W_seq (W_region (L_mv (L_not false (by kernel_rfl) (L_nil (thenQ_normal (W_true (by kernel_rfl) (W_seq (W_region (L_as (L_as (L_nil (thenQ_normal (W_ret (thenQ_ret ?_)))))))))))))))))))
    refine end_ret [.tmp 2, .tmp 3] [(S ([] : List UInt8)), (.int .i64 34)] rfl rfl ⟨by kernel_rfl, by kernel_rfl, trivial⟩ ?_
    have hE : (([] : List UInt8) = (printF (no, k, m, f, t)).1) ∧ ((34 : Int) = (printF (no, k, m, f, t)).2) := ⟨(by first | (rw [print_w0 (by assumption)]; done) | (rw [print_w1 (by assumption) (.inl (by omega))]; done) | (rw [print_w1 (by assumption) (.inr (of_decide_eq_false (by assumption)))]; done) | (rw [print_w2 (by assumption) (by omega) (of_decide_eq_true (by assumption))]; done)), (by first | (rw [print_w0 (by assumption)]; done) | (rw [print_w1 (by assumption) (.inl (by omega))]; done) | (rw [print_w1 (by assumption) (.inr (of_decide_eq_false (by assumption)))]; done) | (rw [print_w2 (by assumption) (by omega) (of_decide_eq_true (by assumption))]; done))⟩
    exact ⟨tup2 (congrArg S hE.1) (congrArg (Value.int .i64) hE.2), hb⟩

set_option maxHeartbeats 4000000 in
set_option maxRecDepth 100000 in
theorem c_furrowlaw03_LinesBack (no : Int) (k : Int) (m : List UInt8) (v_f : Value) (f : List (List UInt8)) (t : List UInt8) (w : World) (p_f : Rd w encStr v_f f) (hty : w.cell? ⟨0, 0, none⟩ = some (.iface 116 (.agg #[.pointer (some ⟨4, 56, none⟩)]))) (hj : (joinF f).length + m.length + t.length ≤ 1000000000) (hk : 0 ≤ k ∧ k ≤ 255) (hfl : f.length ≤ 1073741824) (hcap : CapOk v_f) :
    Calls Tryd.prog 15 #[(Value.agg #[(.int .i64 no), (.int .u8 k), (S m), v_f, (S t)])] w (Ret fun v w' => v = (.bool true) ∧ Below w.heap.size w w') := by
  refine enter (args := [(Value.agg #[(.int .i64 no), (.int .u8 k), (S m), v_f, (S t)])]) Tryd.func15 rfl (by kernel_rfl : _ = 35) (by kernel_rfl) ?_
  have hb := Below.refl w.heap.size w
  have hs : w.heap.size ≤ w.heap.size := Nat.le_refl _
  have in_p_f := p_f
  have hpl : (printF (no, k, m, f, t)).1.length ≤ 1000000100 := print_len hj
  have hfz := scan_flen no (printF (no, k, m, f, t)).1
  have hpe := fun h => print_err (no := no) (k := k) (m := m) (t := t) (f := f) h
  have hpb := fun h => print_back (no := no) (k := k) (m := m) (t := t) (f := f) h
  refine W_seq (W_region (L_new (fun b => .pointer (some ⟨b, 0, none⟩)) (.cells [(.int .i64 no), (.int .u8 k), (S m), v_f, (S t)].toArray 47 (0, 0)) (by kernel_rfl) (by kernel_rfl) ?_))
  intro b1 w2 hN3
  have g_x1 : w.heap.size ≤ b1 := by rw [hN3.num]; exact hs
  replace hb := hb.trans (hN3.below.mono hs)
  replace hs := Nat.le_trans hs (hN3.below.size)
  replace p_f := p_f.below hN3.below
  have o_x1 := hN3.here
  refine L_as (L_nil (thenQ_normal (W_seq (W_seq (W_region (L_call 16 [] (by kernel_rfl) (by kernel_rfl) (c_furrowlaw03_awake  _ (gcell_below hty hb)) ?_))))))
  rintro _ w4 ⟨rfl, hB5⟩
  replace hb := hb.trans (hB5.mono hs)
  replace hs := Nat.le_trans hs (hB5.size)
  replace o_x1 := obj_below o_x1 hB5
  replace p_f := p_f.below hB5
  refine L_not true (by kernel_rfl) (L_nil (thenQ_normal (W_false (by kernel_rfl) (W_skip (thenQ_normal (W_seq (W_region (L_loadA b1 0 [(.int .i64 no), (.int .u8 k), (S m), v_f, (S t)] (by kernel_rfl) (by kernel_rfl) (by kernel_rfl) (cells_at o_x1 0 (by kernel_rfl)) (L_call 41 [(Value.agg #[(.int .i64 no), (.int .u8 k), (S m), v_f, (S t)])] (by kernel_rfl) (by kernel_rfl) (c_lines_Print no k m v_f f t _ p_f (by first | exact hj0 | omega) (by omega) (by omega) (by omega)) ?_)))))))))
  rintro _ w7 ⟨rfl, hB8⟩
  replace hb := hb.trans (hB8.mono hs)
  replace hs := Nat.le_trans hs (hB8.size)
  replace o_x1 := obj_below o_x1 hB8
  replace p_f := p_f.below hB8
  refine L_mv (L_run (S ((printF (no, k, m, f, t)).1)) (by kernel_rfl) (by kernel_rfl) (L_run (.int .i64 ((printF (no, k, m, f, t)).2)) (by kernel_rfl) (by kernel_rfl) (L_as (L_as (L_nil (thenQ_normal (W_seq (W_seq (W_region (L_mv (L_cmp .i64 ((printF (no, k, m, f, t)).2) 0 ((printF (no, k, m, f, t)).2 ≠ 0) rfl (cmp_ne ((printF (no, k, m, f, t)).2) 0) (by kernel_rfl) (by kernel_rfl) ?_ ?_)))))))))))
  · intro h10
    replace h10 : (printF (no, k, m, f, t)).2 ≠ 0 := by omega
    refine L_nil (thenQ_normal (W_true (by kernel_rfl) (W_seq (W_region (L_mv (L_cmp .i64 ((printF (no, k, m, f, t)).2) 34 ((printF (no, k, m, f, t)).2 = 34) rfl (cmp_eq ((printF (no, k, m, f, t)).2) 34) (by kernel_rfl) (by kernel_rfl) ?_ ?_))))))
    · intro h11
      replace h11 : (printF (no, k, m, f, t)).2 = 34 := by omega
      refine L_mv (L_want (by kernel_rfl) (L_mv (L_want (by kernel_rfl) (L_seq ((printF (no, k, m, f, t)).1) ([] : List UInt8) rfl (by kernel_rfl) (by kernel_rfl) ?_ ?_))))
      · intro h12
        refine L_pickT (by kernel_rfl) (L_as (L_nil (thenQ_normal (W_ret (thenQ_ret ?_)))))
        refine end_ret [.tmp 2] [(.bool true)] rfl rfl ⟨by kernel_rfl, trivial⟩ ?_
        have e0 : true = true := by first | rfl | (exfalso; have hz := hpe (by assumption); exact absurd hz.2 (by assumption)) | (exfalso; have hz := hpe (by assumption); omega) | (exfalso; have hz := hpb (by assumption); omega) | (exfalso; have hz := hpb (by assumption); exact (of_decide_eq_false (by assumption)) hz.2)
        exact ⟨congrArg Value.bool e0, hb⟩
      · intro h13
        refine L_pickT (by kernel_rfl) (L_as (L_nil (thenQ_normal (W_ret (thenQ_ret ?_)))))
        refine end_ret [.tmp 2] [(.bool false)] rfl rfl ⟨by kernel_rfl, trivial⟩ ?_
        have e0 : false = true := by first | rfl | (exfalso; have hz := hpe (by assumption); exact absurd hz.2 (by assumption)) | (exfalso; have hz := hpe (by assumption); omega) | (exfalso; have hz := hpb (by assumption); omega) | (exfalso; have hz := hpb (by assumption); exact (of_decide_eq_false (by assumption)) hz.2)
        exact ⟨congrArg Value.bool e0, hb⟩
    · intro h14
      replace h14 : (printF (no, k, m, f, t)).2 ≠ 34 := by omega
      refine L_mv (L_skip (by kernel_rfl) (L_skip (by kernel_rfl) (L_pickF (by kernel_rfl) (L_as (L_nil (thenQ_normal (W_ret (thenQ_ret ?_))))))))
      refine end_ret [.tmp 2] [(.bool false)] rfl rfl ⟨by kernel_rfl, trivial⟩ ?_
      have e0 : false = true := by first | rfl | (exfalso; have hz := hpe (by assumption); exact absurd hz.2 (by assumption)) | (exfalso; have hz := hpe (by assumption); omega) | (exfalso; have hz := hpb (by assumption); omega) | (exfalso; have hz := hpb (by assumption); exact (of_decide_eq_false (by assumption)) hz.2)
      exact ⟨congrArg Value.bool e0, hb⟩
  · intro h15
    replace h15 : (printF (no, k, m, f, t)).2 = 0 := by omega
    refine L_nil (thenQ_normal (W_false (by kernel_rfl) (W_skip (thenQ_normal (W_seq (W_region (L_run (.pointer (some ⟨b1, 0, none⟩)) (by kernel_rfl) (by kernel_rfl) (L_load b1 0 (.int .i64 no) (by kernel_rfl) (by kernel_rfl) (cell_obj o_x1 rfl) (L_mv (L_call 27 [(.int .i64 no), (S ((printF (no, k, m, f, t)).1))] (by kernel_rfl) (by kernel_rfl) (c_lines_Scan no ((printF (no, k, m, f, t)).1) _ (by omega)) ?_))))))))))
    rintro _ w17 ⟨q16, rfl, r_q16, hB18⟩
    replace r_q16 := r_q16.base hs
    replace hb := hb.trans (hB18.mono hs)
    replace hs := Nat.le_trans hs (hB18.size)
    replace o_x1 := obj_below o_x1 hB18
    replace p_f := p_f.below hB18
    have := scan_err no ((printF (no, k, m, f, t)).1)
    refine L_mv (L_run (Value.agg #[(.int .i64 ((scanF no ((printF (no, k, m, f, t)).1)).1.1)), (.int .u8 ((scanF no ((printF (no, k, m, f, t)).1)).1.2.1)), (S ((scanF no ((printF (no, k, m, f, t)).1)).1.2.2.1)), q16, (S ((scanF no ((printF (no, k, m, f, t)).1)).1.2.2.2.2))]) (by kernel_rfl) (by kernel_rfl) (L_run (.int .i64 ((scanF no ((printF (no, k, m, f, t)).1)).2)) (by kernel_rfl) (by kernel_rfl) (L_new (fun b => .pointer (some ⟨b, 0, none⟩)) (.cells [(.int .i64 0), (.int .u8 0), (S ([] : List UInt8)), (.slice none 0 0), (S ([] : List UInt8))].toArray 47 (0, 0)) (by kernel_rfl) (by kernel_rfl) ?_)))
    intro b20 w21 hN22
    have ne_x1_x5 : b1 ≠ b20 := by have := (obj_lt o_x1); have := hN22.num; omega
    have ne_x5_x1 := ne_x1_x5.symm
    have g_x5 : w.heap.size ≤ b20 := by rw [hN22.num]; exact hs
    replace hb := hb.trans (hN22.below.mono hs)
    replace hs := Nat.le_trans hs (hN22.below.size)
    replace o_x1 := obj_below o_x1 hN22.below
    replace p_f := p_f.below hN22.below
    replace r_q16 := r_q16.below hN22.below
    have o_x5 := hN22.here
    refine L_storeA b20 0 [(.int .i64 ((scanF no ((printF (no, k, m, f, t)).1)).1.1)), (.int .u8 ((scanF no ((printF (no, k, m, f, t)).1)).1.2.1)), (S ((scanF no ((printF (no, k, m, f, t)).1)).1.2.2.1)), q16, (S ((scanF no ((printF (no, k, m, f, t)).1)).1.2.2.2.2))] [(.int .i64 0), (.int .u8 0), (S ([] : List UInt8)), (.slice none 0 0), (S ([] : List UInt8))] [(.int .i64 ((scanF no ((printF (no, k, m, f, t)).1)).1.1)), (.int .u8 ((scanF no ((printF (no, k, m, f, t)).1)).1.2.1)), (S ((scanF no ((printF (no, k, m, f, t)).1)).1.2.2.1)), q16, (S ((scanF no ((printF (no, k, m, f, t)).1)).1.2.2.2.2))] 47 (by kernel_rfl) (by kernel_rfl) (allc rfl (allc rfl (allc rfl (allc r_q16.one (allc rfl rfl))))) (by kernel_rfl) o_x5 (by kernel_rfl) rfl ?_
    intro w23 hW24
    replace hb := hb.trans (hW24.below g_x5)
    replace hs := Nat.le_trans hs (Nat.le_of_eq hW24.size.symm)
    have n_o_x1 := obj_wrote o_x1 hW24 ne_x1_x5
    have n_p_f := in_p_f.below hb
    have n_r_q16 := r_q16.wrote hW24 (r_q16.ne o_x5 (by simp))
    replace o_x1 := n_o_x1; clear n_o_x1
    replace p_f := n_p_f; clear n_p_f
    replace r_q16 := n_r_q16; clear n_r_q16
    replace o_x5 := hW24.here
    refine L_as (L_nil (thenQ_normal (W_seq (W_region (L_mv (L_cmp .i64 ((scanF no ((printF (no, k, m, f, t)).1)).2) 0 ((scanF no ((printF (no, k, m, f, t)).1)).2 = 0) rfl (cmp_eq ((scanF no ((printF (no, k, m, f, t)).1)).2) 0) (by kernel_rfl) (by kernel_rfl) ?_ ?_))))))
    · intro h25
      replace h25 : (scanF no ((printF (no, k, m, f, t)).1)).2 = 0 := by omega
      refine L_mv (L_want (by kernel_rfl) (L_loadA b20 0 [(.int .i64 ((scanF no ((printF (no, k, m, f, t)).1)).1.1)), (.int .u8 ((scanF no ((printF (no, k, m, f, t)).1)).1.2.1)), (S ((scanF no ((printF (no, k, m, f, t)).1)).1.2.2.1)), q16, (S ((scanF no ((printF (no, k, m, f, t)).1)).1.2.2.2.2))] (by kernel_rfl) (by kernel_rfl) (by kernel_rfl) (cells_at o_x5 0 (by kernel_rfl)) (L_want (by kernel_rfl) (L_loadA b1 0 [(.int .i64 no), (.int .u8 k), (S m), v_f, (S t)] (by kernel_rfl) (by kernel_rfl) (by kernel_rfl) (cells_at o_x1 0 (by kernel_rfl)) (L_want (by kernel_rfl) (L_call 29 [(Value.agg #[(.int .i64 ((scanF no ((printF (no, k, m, f, t)).1)).1.1)), (.int .u8 ((scanF no ((printF (no, k, m, f, t)).1)).1.2.1)), (S ((scanF no ((printF (no, k, m, f, t)).1)).1.2.2.1)), q16, (S ((scanF no ((printF (no, k, m, f, t)).1)).1.2.2.2.2))]), (Value.agg #[(.int .i64 no), (.int .u8 k), (S m), v_f, (S t)])] (by kernel_rfl) (by kernel_rfl) (c_furrowref03_Same ((scanF no ((printF (no, k, m, f, t)).1)).1.1) ((scanF no ((printF (no, k, m, f, t)).1)).1.2.1) ((scanF no ((printF (no, k, m, f, t)).1)).1.2.2.1) q16 ((scanF no ((printF (no, k, m, f, t)).1)).1.2.2.2.1) ((scanF no ((printF (no, k, m, f, t)).1)).1.2.2.2.2) no k m v_f f t _ r_q16.rd p_f (by omega) (by omega)) ?_))))))
      rintro _ w26 ⟨rfl, hB27⟩
      replace hb := hb.trans (hB27.mono hs)
      replace hs := Nat.le_trans hs (hB27.size)
      replace o_x1 := obj_below o_x1 hB27
      replace o_x5 := obj_below o_x5 hB27
      replace p_f := p_f.below hB27
      replace r_q16 := r_q16.below hB27
      refine put_split (decide (((((scanF no ((printF (no, k, m, f, t)).1)).1.1), ((scanF no ((printF (no, k, m, f, t)).1)).1.2.1), ((scanF no ((printF (no, k, m, f, t)).1)).1.2.2.1), ((scanF no ((printF (no, k, m, f, t)).1)).1.2.2.2.1), ((scanF no ((printF (no, k, m, f, t)).1)).1.2.2.2.2)) : LineD) = ((no, k, m, f, t) : LineD))) ?_ ?_
      · intro h29
        refine L_pickT (by kernel_rfl) (L_as (L_nil (thenQ_normal (W_ret ?_))))
        refine end_ret [.tmp 2] [(.bool true)] rfl rfl ⟨by kernel_rfl, trivial⟩ ?_
        have e0 : true = true := by first | rfl | (exfalso; have hz := hpe (by assumption); exact absurd hz.2 (by assumption)) | (exfalso; have hz := hpe (by assumption); omega) | (exfalso; have hz := hpb (by assumption); omega) | (exfalso; have hz := hpb (by assumption); exact (of_decide_eq_false (by assumption)) hz.2)
        exact ⟨congrArg Value.bool e0, hb⟩
      · intro h30
        refine L_pickT (by kernel_rfl) (L_as (L_nil (thenQ_normal (W_ret ?_))))
        refine end_ret [.tmp 2] [(.bool false)] rfl rfl ⟨by kernel_rfl, trivial⟩ ?_
        have e0 : false = true := by first | rfl | (exfalso; have hz := hpe (by assumption); exact absurd hz.2 (by assumption)) | (exfalso; have hz := hpe (by assumption); omega) | (exfalso; have hz := hpb (by assumption); omega) | (exfalso; have hz := hpb (by assumption); exact (of_decide_eq_false (by assumption)) hz.2)
        exact ⟨congrArg Value.bool e0, hb⟩
    · intro h31
      replace h31 : (scanF no ((printF (no, k, m, f, t)).1)).2 ≠ 0 := by omega
      refine L_mv (L_skip (by kernel_rfl) (L_skip (by kernel_rfl) (L_skip (by kernel_rfl) (L_pickF (by kernel_rfl) (L_as (L_nil (thenQ_normal (W_ret ?_))))))))
      refine end_ret [.tmp 2] [(.bool false)] rfl rfl ⟨by kernel_rfl, trivial⟩ ?_
      have e0 : false = true := by first | rfl | (exfalso; have hz := hpe (by assumption); exact absurd hz.2 (by assumption)) | (exfalso; have hz := hpe (by assumption); omega) | (exfalso; have hz := hpb (by assumption); omega) | (exfalso; have hz := hpb (by assumption); exact (of_decide_eq_false (by assumption)) hz.2)
      exact ⟨congrArg Value.bool e0, hb⟩

set_option maxHeartbeats 4000000 in
set_option maxRecDepth 100000 in
theorem c_furrowlaw03_twin (no : Int) (k : Int) (m : List UInt8) (v_f : Value) (f : List (List UInt8)) (t : List UInt8) (w : World) (p_f : Rd w encStr v_f f) (hfl : f.length ≤ 1073741824) :
    Calls Tryd.prog 40 #[(Value.agg #[(.int .i64 no), (.int .u8 k), (S m), v_f, (S t)])] w (Ret fun v w' => ∃ (q0 : Value) (q1 : Value), v = (Value.agg #[(.int .i64 no), (.int .u8 k), (S m), q0, (S t)]) ∧ Row w' w.heap.size 9 1 encStr q0 f ∧ Row w' w.heap.size 9 1 encStr q1 (f ++ [([109, 97, 114, 107] : List UInt8)]) ∧ SameCap q1 q0 ∧ Below w.heap.size w w') := by
  refine enter (args := [(Value.agg #[(.int .i64 no), (.int .u8 k), (S m), v_f, (S t)])]) Tryd.func40 rfl (by kernel_rfl : _ = 18) (by kernel_rfl) ?_
  have hb := Below.refl w.heap.size w
  have hs : w.heap.size ≤ w.heap.size := Nat.le_refl _
  have in_p_f := p_f
  refine W_seq (W_region (L_new (fun b => .pointer (some ⟨b, 0, none⟩)) (.cells [(.int .i64 no), (.int .u8 k), (S m), v_f, (S t)].toArray 47 (0, 0)) (by kernel_rfl) (by kernel_rfl) ?_))
  intro b1 w2 hN3
  have g_x1 : w.heap.size ≤ b1 := by rw [hN3.num]; exact hs
  replace hb := hb.trans (hN3.below.mono hs)
  replace hs := Nat.le_trans hs (hN3.below.size)
  replace p_f := p_f.below hN3.below
  have o_x1 := hN3.here
  refine L_new (fun b => .pointer (some ⟨b, 0, none⟩)) (.cells [(.int .i64 0), (.int .u8 0), (S ([] : List UInt8)), (.slice none 0 0), (S ([] : List UInt8))].toArray 47 (0, 0)) (by kernel_rfl) (by kernel_rfl) ?_
  intro b4 w5 hN6
  have ne_x1_x2 : b1 ≠ b4 := by have := (obj_lt o_x1); have := hN6.num; omega
  have ne_x2_x1 := ne_x1_x2.symm
  have g_x2 : w.heap.size ≤ b4 := by rw [hN6.num]; exact hs
  replace hb := hb.trans (hN6.below.mono hs)
  replace hs := Nat.le_trans hs (hN6.below.size)
  replace o_x1 := obj_below o_x1 hN6.below
  replace p_f := p_f.below hN6.below
  have o_x2 := hN6.here
  refine L_nil (thenQ_normal (W_seq (W_region (L_as (L_nil (thenQ_normal (W_seq (W_region (L_mv (L_run (.pointer (some ⟨b1, 3, none⟩)) (by kernel_rfl) (by kernel_rfl) (L_load b1 3 v_f (by kernel_rfl) (by kernel_rfl) (cell_obj o_x1 rfl) (L_appAll el40 w.heap.size (.slice none 0 0) v_f ([] : List (List UInt8)) f hs (Row.nil _ w.heap.size 9 1 encStr) p_f (by first | omega | (simp; omega) | (simp only [List.length_append, List.length_nil]; omega)) (fun _ => rfl) (fun _ => rfl) (by kernel_rfl) (by kernel_rfl) (by kernel_rfl) ?_))))))))))))
  intro v7 w8 hr9 hg10 how11 
  replace hb := hb.grown hg10 hs (fun k hk => by simp [Value.ownBlock] at hk)
  replace hs := Nat.le_trans hs (hg10.size)
  replace o_x1 := obj_grown o_x1 hg10 (by simp [Value.ownBlock])
  replace o_x2 := obj_grown o_x2 hg10 (by simp [Value.ownBlock])
  have p_f := in_p_f.below hb
  have r_7 := hr9
  refine L_as (L_nil (thenQ_normal (W_seq (W_region (L_mv (L_app el40 w.heap.size v7 (([] : List (List UInt8)) ++ f) ([109, 97, 114, 107] : List UInt8) hs r_7 (by first | omega | (simp; omega) | (simp only [List.length_append, List.length_nil]; omega)) (by kernel_rfl) rfl rfl (by kernel_rfl) rfl (by kernel_rfl) (by kernel_rfl) ?_))))))
  intro v12 w13 hr14 hg15 how16
  replace hb := hb.grown hg15 hs (fun k hk => (World.ownsRow.lt r_7 k hk).1)
  replace hs := Nat.le_trans hs (hg15.size)
  have n_o_x1 := obj_grown o_x1 hg15 (r_7.ne o_x1 (by simp))
  have n_o_x2 := obj_grown o_x2 hg15 (r_7.ne o_x2 (by simp))
  have n_p_f := in_p_f.below hb
  replace o_x1 := n_o_x1; clear n_o_x1
  replace o_x2 := n_o_x2; clear n_o_x2
  replace p_f := n_p_f; clear n_p_f
  replace r_7 := hr14
  refine L_as (L_nil (thenQ_normal (W_seq (W_region (L_mv (L_run (.pointer (some ⟨b1, 3, none⟩)) (by kernel_rfl) (by kernel_rfl) (L_load b1 3 v_f (by kernel_rfl) (by kernel_rfl) (cell_obj o_x1 rfl) (L_len 40 9 (f).length v_f rfl Tryd.underlying40 (p_f).len (by kernel_rfl) (L_sltoR el40 v12 ((([] : List (List UInt8)) ++ f) ++ [([109, 97, 114, 107] : List UInt8)]) ((f).length) r_7 (fun _ => rfl) (by first | omega | (simp; done) | (simp; omega)) (by kernel_rfl) ⟨.i64, by kernel_rfl⟩ ?_)))))))))
  intro vp17 r_vp18 hsc19
  refine L_run (.pointer (some ⟨b1, 3, none⟩)) (by kernel_rfl) (by kernel_rfl) (L_store b1 3 vp17 [(.int .i64 no), (.int .u8 k), (S m), v_f, (S t)] [(.int .i64 no), (.int .u8 k), (S m), vp17, (S t)] 47 (by kernel_rfl) (by kernel_rfl) r_vp18.one (by kernel_rfl) o_x1 (by simp) rfl ?_)
  intro w20 hW21
  replace hb := hb.trans (hW21.below g_x1)
  replace hs := Nat.le_trans hs (Nat.le_of_eq hW21.size.symm)
  have n_o_x2 := obj_wrote o_x2 hW21 ne_x2_x1
  have n_p_f := in_p_f.below hb
  have n_r_7 := r_7.wrote hW21 (r_7.ne o_x1 (by simp))
  have n_r_vp18 := r_vp18.wrote hW21 (r_vp18.ne o_x1 (by simp))
  replace o_x2 := n_o_x2; clear n_o_x2
  replace p_f := n_p_f; clear n_p_f
  replace r_7 := n_r_7; clear n_r_7
  replace r_vp18 := n_r_vp18; clear n_r_vp18
  replace o_x1 := hW21.here
  refine L_nil (thenQ_normal (W_seq (W_region (L_loadA b1 0 [(.int .i64 no), (.int .u8 k), (S m), vp17, (S t)] (by kernel_rfl) (by kernel_rfl) (by kernel_rfl) (cells_at o_x1 0 (by kernel_rfl)) (L_storeA b4 0 [(.int .i64 no), (.int .u8 k), (S m), vp17, (S t)] [(.int .i64 0), (.int .u8 0), (S ([] : List UInt8)), (.slice none 0 0), (S ([] : List UInt8))] [(.int .i64 no), (.int .u8 k), (S m), vp17, (S t)] 47 (by kernel_rfl) (by kernel_rfl) (allc rfl (allc rfl (allc rfl (allc r_vp18.one (allc rfl rfl))))) (by kernel_rfl) o_x2 (by kernel_rfl) rfl ?_)))))
  intro w22 hW23
  replace hb := hb.trans (hW23.below g_x2)
  replace hs := Nat.le_trans hs (Nat.le_of_eq hW23.size.symm)
  have n_o_x1 := obj_wrote o_x1 hW23 ne_x1_x2
  have n_p_f := in_p_f.below hb
  have n_r_7 := r_7.wrote hW23 (r_7.ne o_x2 (by simp))
  have n_r_vp18 := r_vp18.wrote hW23 (r_vp18.ne o_x2 (by simp))
  replace o_x1 := n_o_x1; clear n_o_x1
  replace p_f := n_p_f; clear n_p_f
  replace r_7 := n_r_7; clear n_r_7
  replace r_vp18 := n_r_vp18; clear n_r_vp18
  replace o_x2 := hW23.here
  refine L_nil (thenQ_normal (W_ret ?_))
  refine end_ret [.cell 2 47] [(Value.agg #[(.int .i64 no), (.int .u8 k), (S m), vp17, (S t)])] rfl rfl ⟨⟨⟨b4, 0, none⟩, by kernel_rfl, load_agg [(.int .i64 no), (.int .u8 k), (S m), vp17, (S t)] (by kernel_rfl) (by kernel_rfl) (cells_obj o_x2)⟩, trivial⟩ ?_
  have e50 : (List.take ((f).length) ((([] : List (List UInt8)) ++ f) ++ [([109, 97, 114, 107] : List UInt8)])) = f := by simp
  have e51 : ((([] : List (List UInt8)) ++ f) ++ [([109, 97, 114, 107] : List UInt8)]) = (f ++ [([109, 97, 114, 107] : List UInt8)]) := by simp
  exact ⟨vp17, v12, rfl, r_vp18.cast e50, r_7.cast e51, hsc19, hb⟩

set_option maxHeartbeats 4000000 in
set_option maxRecDepth 100000 in
theorem c_furrowlaw03_LinesPrints (no : Int) (k : Int) (m : List UInt8) (v_f : Value) (f : List (List UInt8)) (t : List UInt8) (w : World) (p_f : Rd w encStr v_f f) (hty : w.cell? ⟨0, 0, none⟩ = some (.iface 116 (.agg #[.pointer (some ⟨4, 56, none⟩)]))) (hj : (joinF f).length + m.length + t.length ≤ 1000000000) (hk : 0 ≤ k ∧ k ≤ 255) (hfl : f.length ≤ 1073741824) :
    Calls Tryd.prog 14 #[(Value.agg #[(.int .i64 no), (.int .u8 k), (S m), v_f, (S t)])] w (Ret fun v w' => v = (.bool true) ∧ Below w.heap.size w w') := by
  refine enter (args := [(Value.agg #[(.int .i64 no), (.int .u8 k), (S m), v_f, (S t)])]) Tryd.func14 rfl (by kernel_rfl : _ = 53) (by kernel_rfl) ?_
  have hb := Below.refl w.heap.size w
  have hs : w.heap.size ≤ w.heap.size := Nat.le_refl _
  have in_p_f := p_f
  refine W_seq (W_region (L_new (fun b => .pointer (some ⟨b, 0, none⟩)) (.cells [(.int .i64 no), (.int .u8 k), (S m), v_f, (S t)].toArray 47 (0, 0)) (by kernel_rfl) (by kernel_rfl) ?_))
  intro b1 w2 hN3
  have g_x1 : w.heap.size ≤ b1 := by rw [hN3.num]; exact hs
  replace hb := hb.trans (hN3.below.mono hs)
  replace hs := Nat.le_trans hs (hN3.below.size)
  replace p_f := p_f.below hN3.below
  have o_x1 := hN3.here
  refine L_as (L_nil (thenQ_normal (W_seq (W_region (L_loadA b1 0 [(.int .i64 no), (.int .u8 k), (S m), v_f, (S t)] (by kernel_rfl) (by kernel_rfl) (by kernel_rfl) (cells_at o_x1 0 (by kernel_rfl)) (L_call 40 [(Value.agg #[(.int .i64 no), (.int .u8 k), (S m), v_f, (S t)])] (by kernel_rfl) (by kernel_rfl) (c_furrowlaw03_twin no k m v_f f t _ p_f (by first | omega | (simp; done) | (simp only [List.length_append, List.length_cons, List.length_nil]; omega))) ?_))))))
  rintro _ w6 ⟨q4, q5, rfl, r_q4, r_q5, hx9, hB7⟩
  replace r_q4 := r_q4.base hs
  replace r_q5 := r_q5.base hs
  replace hb := hb.trans (hB7.mono hs)
  replace hs := Nat.le_trans hs (hB7.size)
  replace o_x1 := obj_below o_x1 hB7
  replace p_f := p_f.below hB7
  refine L_new (fun b => .pointer (some ⟨b, 0, none⟩)) (.cells [(.int .i64 0), (.int .u8 0), (S ([] : List UInt8)), (.slice none 0 0), (S ([] : List UInt8))].toArray 47 (0, 0)) (by kernel_rfl) (by kernel_rfl) ?_
  intro b10 w11 hN12
  have ne_x1_x3 : b1 ≠ b10 := by have := (obj_lt o_x1); have := hN12.num; omega
  have ne_x3_x1 := ne_x1_x3.symm
  have g_x3 : w.heap.size ≤ b10 := by rw [hN12.num]; exact hs
  replace hb := hb.trans (hN12.below.mono hs)
  replace hs := Nat.le_trans hs (hN12.below.size)
  replace o_x1 := obj_below o_x1 hN12.below
  replace p_f := p_f.below hN12.below
  replace r_q4 := r_q4.below hN12.below
  replace r_q5 := r_q5.below hN12.below
  have o_x3 := hN12.here
  refine L_storeA b10 0 [(.int .i64 no), (.int .u8 k), (S m), q4, (S t)] [(.int .i64 0), (.int .u8 0), (S ([] : List UInt8)), (.slice none 0 0), (S ([] : List UInt8))] [(.int .i64 no), (.int .u8 k), (S m), q4, (S t)] 47 (by kernel_rfl) (by kernel_rfl) (allc rfl (allc rfl (allc rfl (allc r_q4.one (allc rfl rfl))))) (by kernel_rfl) o_x3 (by kernel_rfl) rfl ?_
  intro w13 hW14
  replace hb := hb.trans (hW14.below g_x3)
  replace hs := Nat.le_trans hs (Nat.le_of_eq hW14.size.symm)
  have n_o_x1 := obj_wrote o_x1 hW14 ne_x1_x3
  have n_p_f := in_p_f.below hb
  have n_r_q4 := r_q4.wrote hW14 (r_q4.ne o_x3 (by simp))
  have n_r_q5 := r_q5.wrote hW14 (r_q5.ne o_x3 (by simp))
  replace o_x1 := n_o_x1; clear n_o_x1
  replace p_f := n_p_f; clear n_p_f
  replace r_q4 := n_r_q4; clear n_r_q4
  replace r_q5 := n_r_q5; clear n_r_q5
  replace o_x3 := hW14.here
  refine L_nil (thenQ_normal (W_seq (W_region (L_loadA b10 0 [(.int .i64 no), (.int .u8 k), (S m), q4, (S t)] (by kernel_rfl) (by kernel_rfl) (by kernel_rfl) (cells_at o_x3 0 (by kernel_rfl)) (L_call 41 [(Value.agg #[(.int .i64 no), (.int .u8 k), (S m), q4, (S t)])] (by kernel_rfl) (by kernel_rfl) (c_lines_Print no k m q4 f t _ r_q4.rd (by first | exact hj0 | omega) (by first | omega | (simp; done) | (simp only [List.length_append, List.length_cons, List.length_nil]; omega)) (by first | omega | (simp; done) | (simp only [List.length_append, List.length_cons, List.length_nil]; omega)) (by first | assumption | exact cap_row (by assumption))) ?_)))))
  rintro _ w15 ⟨rfl, hB16⟩
  replace hb := hb.trans (hB16.mono hs)
  replace hs := Nat.le_trans hs (hB16.size)
  replace o_x1 := obj_below o_x1 hB16
  replace o_x3 := obj_below o_x3 hB16
  replace p_f := p_f.below hB16
  replace r_q4 := r_q4.below hB16
  replace r_q5 := r_q5.below hB16
  refine L_mv (L_run (S ((printF (no, k, m, f, t)).1)) (by kernel_rfl) (by kernel_rfl) (L_run (.int .i64 ((printF (no, k, m, f, t)).2)) (by kernel_rfl) (by kernel_rfl) (L_as (L_as (L_nil (thenQ_normal (W_seq (W_region (L_loadA b1 0 [(.int .i64 no), (.int .u8 k), (S m), v_f, (S t)] (by kernel_rfl) (by kernel_rfl) (by kernel_rfl) (cells_at o_x1 0 (by kernel_rfl)) (L_call 42 [(Value.agg #[(.int .i64 no), (.int .u8 k), (S m), v_f, (S t)])] (by kernel_rfl) (by kernel_rfl) (c_furrowref03_Print no k m v_f f t _ p_f (by first | omega | (simp; done) | (simp only [List.length_append, List.length_cons, List.length_nil]; omega)) (by first | omega | (simp; done) | (simp only [List.length_append, List.length_cons, List.length_nil]; omega)) (by first | omega | (simp; done) | (simp only [List.length_append, List.length_cons, List.length_nil]; omega))) ?_))))))))))
  rintro _ w18 ⟨rfl, hB19⟩
  replace hb := hb.trans (hB19.mono hs)
  replace hs := Nat.le_trans hs (hB19.size)
  replace o_x1 := obj_below o_x1 hB19
  replace o_x3 := obj_below o_x3 hB19
  replace p_f := p_f.below hB19
  replace r_q4 := r_q4.below hB19
  replace r_q5 := r_q5.below hB19
  refine L_mv (L_run (S ((printF (no, k, m, f, t)).1)) (by kernel_rfl) (by kernel_rfl) (L_run (.int .i64 ((printF (no, k, m, f, t)).2)) (by kernel_rfl) (by kernel_rfl) (L_as (L_as (L_nil (thenQ_normal (W_seq (W_region (L_run (.pointer (some ⟨b10, 3, none⟩)) (by kernel_rfl) (by kernel_rfl) (L_load b10 3 q4 (by kernel_rfl) (by kernel_rfl) (cell_obj o_x3 rfl) (L_run (.pointer (some ⟨b1, 3, none⟩)) (by kernel_rfl) (by kernel_rfl) (L_load b1 3 v_f (by kernel_rfl) (by kernel_rfl) (cell_obj o_x1 rfl) (L_len 40 9 (f).length v_f rfl Tryd.underlying40 (p_f).len (by kernel_rfl) (L_addN ((f).length) 1 (by omega) (by kernel_rfl) (by kernel_rfl) (L_slext el40 q4 q5 f (f ++ [([109, 97, 114, 107] : List UInt8)]) r_q4 r_q5 hx9 (by kernel_rfl) ⟨.i64, (by kernel_rfl : _ = Value.int .i64 ((((f).length + 1) : Nat) : Int)).trans (by first | rfl | simp)⟩ (L_as (L_nil (thenQ_normal (W_seq (W_region (L_mv (L_mv (L_seq ((printF (no, k, m, f, t)).1) ((printF (no, k, m, f, t)).1) rfl (by kernel_rfl) (by kernel_rfl) ?_ ?_)))))))))))))))))))))))
  · intro h21
    refine L_mv (L_want (by kernel_rfl) (L_mv (L_want (by kernel_rfl) (L_mv (L_want (by kernel_rfl) (L_cmp .i64 ((printF (no, k, m, f, t)).2) ((printF (no, k, m, f, t)).2) ((printF (no, k, m, f, t)).2 = (printF (no, k, m, f, t)).2) rfl (cmp_eq ((printF (no, k, m, f, t)).2) ((printF (no, k, m, f, t)).2)) (by kernel_rfl) (by kernel_rfl) ?_ ?_))))))
    · intro h22
      replace h22 : (printF (no, k, m, f, t)).2 = (printF (no, k, m, f, t)).2 := by omega
      refine L_pickT (by kernel_rfl) (L_mv (L_want (by kernel_rfl) (L_loadA b10 0 [(.int .i64 no), (.int .u8 k), (S m), q4, (S t)] (by kernel_rfl) (by kernel_rfl) (by kernel_rfl) (cells_at o_x3 0 (by kernel_rfl)) (L_want (by kernel_rfl) (L_loadA b1 0 [(.int .i64 no), (.int .u8 k), (S m), v_f, (S t)] (by kernel_rfl) (by kernel_rfl) (by kernel_rfl) (cells_at o_x1 0 (by kernel_rfl)) (L_want (by kernel_rfl) (L_call 29 [(Value.agg #[(.int .i64 no), (.int .u8 k), (S m), q4, (S t)]), (Value.agg #[(.int .i64 no), (.int .u8 k), (S m), v_f, (S t)])] (by kernel_rfl) (by kernel_rfl) (c_furrowref03_Same no k m q4 f t no k m v_f f t _ r_q4.rd p_f (by first | omega | (simp; done) | (simp only [List.length_append, List.length_cons, List.length_nil]; omega)) (by first | omega | (simp; done) | (simp only [List.length_append, List.length_cons, List.length_nil]; omega))) ?_)))))))
      rintro _ w23 ⟨rfl, hB24⟩
      replace hb := hb.trans (hB24.mono hs)
      replace hs := Nat.le_trans hs (hB24.size)
      replace o_x1 := obj_below o_x1 hB24
      replace o_x3 := obj_below o_x3 hB24
      replace p_f := p_f.below hB24
      replace r_q4 := r_q4.below hB24
      replace r_q5 := r_q5.below hB24
      refine put_split (decide (((no, k, m, f, t) : LineD) = ((no, k, m, f, t) : LineD))) ?_ ?_
      · intro h26
        refine L_pickT (by kernel_rfl) (L_mv (L_want (by kernel_rfl) (L_mv (L_want (by kernel_rfl) (L_run (.pointer (some ⟨b1, 3, none⟩)) (by kernel_rfl) (by kernel_rfl) (L_want (by kernel_rfl) (L_load b1 3 v_f (by kernel_rfl) (by kernel_rfl) (cell_obj o_x1 rfl) (L_want (by kernel_rfl) (L_len 40 9 (f).length v_f rfl Tryd.underlying40 (p_f).len (by kernel_rfl) (L_want (by kernel_rfl) ?_))))))))))
        have hz := get_some (f ++ [([109, 97, 114, 107] : List UInt8)]) ((f).length) (by first | omega | (simp; done) | (simp only [List.length_append, List.length_cons, List.length_nil]; omega)); obtain ⟨x27, hx28⟩ := hz
        have hz := (r_q5.rd).at (k := 1) (fun _ => rfl) hx28
        obtain ⟨g29, off30, hl31, hc32⟩ := hz
        have hm_x27 := snoc_at hx28
        refine L_ixaddr (k := .i64) q5 ((f).length) _ g29 off30 el40 hl31 (by first | omega | (simp; done) | (simp only [List.length_append, List.length_cons, List.length_nil]; omega)) (by kernel_rfl) (by kernel_rfl) (L_want (by kernel_rfl) (L_load g29 (off30 + ((f).length) * 1) (S x27) (by kernel_rfl) (by kernel_rfl) (hc32 0 _ rfl) (L_want (by kernel_rfl) (L_seq x27 ([109, 97, 114, 107] : List UInt8) rfl (by kernel_rfl) (by kernel_rfl) ?_ ?_))))
        · intro h33
          refine L_pickT (by kernel_rfl) (L_mv (L_want (by kernel_rfl) (L_call 16 [] (by kernel_rfl) (by kernel_rfl) (c_furrowlaw03_awake  _ (gcell_below hty hb)) ?_)))
          rintro _ w34 ⟨rfl, hB35⟩
          replace hb := hb.trans (hB35.mono hs)
          replace hs := Nat.le_trans hs (hB35.size)
          replace o_x1 := obj_below o_x1 hB35
          replace o_x3 := obj_below o_x3 hB35
          replace p_f := p_f.below hB35
          replace r_q4 := r_q4.below hB35
          replace r_q5 := r_q5.below hB35
          refine L_pickT (by kernel_rfl) (L_as (L_nil (thenQ_normal (W_ret ?_))))
          refine end_ret [.tmp 2] [(.bool true)] rfl rfl ⟨by kernel_rfl, trivial⟩ ?_
          have e0 : true = true := by first | rfl | (exfalso; exact absurd rfl (by assumption)) | (exfalso; omega) | (simp_all; done)
          exact ⟨congrArg Value.bool e0, hb⟩
        · intro h37
          refine L_pickT (by kernel_rfl) (L_mv (L_skip (by kernel_rfl) (L_pickF (by kernel_rfl) (L_as (L_nil (thenQ_normal (W_ret ?_)))))))
          refine end_ret [.tmp 2] [(.bool false)] rfl rfl ⟨by kernel_rfl, trivial⟩ ?_
          have e0 : false = true := by first | rfl | (exfalso; exact absurd rfl (by assumption)) | (exfalso; omega) | (simp_all; done)
          exact ⟨congrArg Value.bool e0, hb⟩
      · intro h38
        exfalso; simp at h38
    · intro h39
      replace h39 : (printF (no, k, m, f, t)).2 ≠ (printF (no, k, m, f, t)).2 := by omega
      exact (h39 rfl).elim
  · intro h40
    exact (h40 rfl).elim

end Go.Proofs.YtapndpldphflcaaDoor
