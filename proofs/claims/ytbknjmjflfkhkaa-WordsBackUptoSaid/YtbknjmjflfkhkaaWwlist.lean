/- Walks, written by my program walk.py out of the specification wlist.py: each theorem says what one function returns and that it leaves memory as it was. -/
import Derived.Test.YtbknjmjflfkhkaaPList
import Derived.Test.YtbknjmjflfkhkaaWwords
import Derived.Test.YtbknjmjflfkhkaaWwnames
import Derived.Test.YtbknjmjflfkhkaaWweach
import Derived.Test.YtbknjmjflfkhkaaFKj
import Derived.Test.YtbknjmjflfkhkaaProg
namespace Go.Proofs.Ytbknjmjflfkhkaa
open Go Go.RowKit Go.FK
set_option linter.unusedVariables false


theorem c_strings_Join {B_elems E_elems k_elems : Nat} (v_elems : Value) (elems : List (List UInt8)) (sep : List UInt8) (w : World) (p_elems : Row w B_elems E_elems k_elems encStr v_elems elems) (hn : elems.length ≤ 140737488355328) (hl : (Lib.join elems sep).length ≤ 140737488355328) :
    Calls Try.prog 45 #[v_elems, (S sep)] w (Ret fun v w' => v = (S (Lib.join elems sep)) ∧ Below w.heap.size w w') :=
  join_contract Try.strings_Join_none Try.strings_Join v_elems elems sep w p_elems hn hl

set_option maxHeartbeats 4000000 in
set_option maxRecDepth 100000 in
theorem c_words_Write (v_l : Value) (l : List (Int)) (w : World) (p_l : Rd w encU8 v_l l) (hl : l.length ≤ 1073741824) (hr : ∀ x ∈ l, 0 ≤ x ∧ x ≤ 255) :
    Calls Try.prog 36 #[v_l] w (Ret fun v w' => v = (.tuple #[(S ((writeF l).1)), (.int .i64 ((writeF l).2))]) ∧ Below w.heap.size w w') := by
  refine enter (args := [v_l]) Try.func36 rfl (by kernel_rfl : _ = 30) (by kernel_rfl) ?_
  have hb := Below.refl w.heap.size w
  have hs : w.heap.size ≤ w.heap.size := Nat.le_refl _
  have in_p_l := p_l
  refine W_seq (W_region (L_as (L_as (L_nil (thenQ_normal (W_seq (W_region (L_as (L_nil (thenQ_normal (W_seq (W_seq (W_region (L_mv (L_len 49 34 (l).length v_l rfl Try.underlying49 (p_l).len (by kernel_rfl) (L_mv (L_nil (thenQ_normal (W_block ?_)))))))))))))))))))
  refine W_loop (fun m s0 w0 => ∃ (i : Nat) (acc : List (List UInt8)) (v_4 : Value), (m = l.length - i) ∧ (s0.ds = []) ∧ (s0.f 9 = v_l) ∧ (s0.f 10 = (.int .i64 (((l).length : Nat) : Int))) ∧ (s0.f 4 = v_4) ∧ (s0.f 11 = (.int .i64 ((i : Nat) : Int))) ∧ (Rd w0 encU8 v_l l) ∧ (Row w0 w.heap.size 9 1 encStr v_4 acc) ∧ (Below w.heap.size w w0) ∧ (w.heap.size ≤ w0.heap.size) ∧ (i ≤ l.length) ∧ (acc.length ≤ i) ∧ (acc = (l.take i).map shortS) ∧ ((l.take i).all validC = true)) _ ⟨0, [], (.slice none 0 0), rfl, by kernel_rfl, by kernel_rfl, by kernel_rfl, by kernel_rfl, by kernel_rfl, p_l, Row.nil _ _ _ _ _, hb, hs, by omega, Nat.le_refl _, rfl, rfl⟩ ?_
  rintro m1 s2 w3 ⟨i, acc, v_4, hm, hds, f_9, f_10, f_4, f_11, p_l, r_4, hb, hs, i1, i2, i3, i4⟩
  refine W_set 9 _ f_9 (W_set 10 _ f_10 (W_set 4 _ f_4 (W_set 11 _ f_11 ?_)))
  clear f_9 f_10 f_4 f_11
  have hjl := names_len i3
  refine W_seq (W_region (L_cmp .i64 ((i : Nat) : Int) (((l).length : Nat) : Int) (i < (l).length) rfl (cmpN_lt i ((l).length)) (by kernel_rfl) (by kernel_rfl) ?_ ?_))
  · intro h4
    replace h4 : i < (l).length := by omega
    refine L_nil (thenQ_normal (W_seq (W_true (by kernel_rfl) (W_skip (thenQ_normal (W_seq (W_block (W_seq (W_region ?_)))))))))
    obtain ⟨x5, hx6⟩ := get_some l i (by omega)
    have hz := (p_l).at (k := 1) (fun _ => rfl) hx6
    obtain ⟨g7, off8, hl9, hc10⟩ := hz
    have hxr := hr _ (List.mem_of_getElem? hx6)
    refine L_ixaddr (k := .i64) v_l i _ g7 off8 el49 hl9 (by omega) (by kernel_rfl) (by kernel_rfl) (L_load g7 (off8 + i * 1) (.int .u8 x5) (by kernel_rfl) (by kernel_rfl) (hc10 0 _ rfl) (L_as (L_nil (thenQ_normal (W_seq (W_region (L_mv (L_call 27 [(.int .u8 x5)] (by kernel_rfl) (by kernel_rfl) (c_words_Short x5 _ (by omega)) ?_))))))))
    rintro _ w11 ⟨rfl, hB12⟩
    replace hb := hb.trans (hB12.mono hs)
    replace hs := Nat.le_trans hs (hB12.size)
    replace p_l := p_l.below hB12
    replace r_4 := r_4.below hB12
    refine L_mv (L_run (S (shortS x5)) (by kernel_rfl) (by kernel_rfl) (L_run (.int .i64 (toldE x5)) (by kernel_rfl) (by kernel_rfl) (L_as (L_as (L_nil (thenQ_normal (W_seq (W_seq (W_region (L_mv (L_cmp .i64 (toldE x5) 0 (toldE x5 ≠ 0) rfl (cmp_ne (toldE x5) 0) (by kernel_rfl) (by kernel_rfl) ?_ ?_)))))))))))
    · intro h14
      replace h14 : toldE x5 ≠ 0 := by omega
      refine L_nil (thenQ_normal (W_true (by kernel_rfl) (W_seq (W_region (L_mv (L_as (L_as (L_nil (thenQ_normal (W_ret (thenQ_ret (blkQ_ret (thenQ_ret (thenQ_ret (blkQ_ret (thenQ_ret ?_))))))))))))))))
      refine end_ret [.tmp 2, .tmp 3] [(S ([] : List UInt8)), (.int .i64 (toldE x5))] rfl hds ⟨by kernel_rfl, by kernel_rfl, trivial⟩ ?_
      have hE : (([] : List UInt8) = (writeF l).1) ∧ ((toldE x5 : Int) = (writeF l).2) := ⟨(by first | (rw [writeF_all i4 (by omega)]; done) | (rw [writeF_all i4 (by omega), i3, List.take_of_length_le (by omega)]; done) | (rw [writeF_bad (by assumption) (valid_told (by assumption)).1]; try exact (valid_told (by assumption)).2; done)), (by first | (rw [writeF_all i4 (by omega)]; done) | (rw [writeF_all i4 (by omega), i3, List.take_of_length_le (by omega)]; done) | (rw [writeF_bad (by assumption) (valid_told (by assumption)).1]; try exact (valid_told (by assumption)).2; done))⟩
      exact ⟨tup2 (congrArg S hE.1) (congrArg (Value.int .i64) hE.2), hb⟩
    · intro h15
      replace h15 : toldE x5 = 0 := by omega
      refine L_nil (thenQ_normal (W_false (by kernel_rfl) (W_skip (thenQ_normal (W_region (L_mv (L_mv (L_app el43 w.heap.size v_4 acc (shortS x5) hs r_4 (by omega) (by kernel_rfl) rfl rfl (by kernel_rfl) rfl (by kernel_rfl) (by kernel_rfl) ?_))))))))
      intro v16 w17 hr18 hg19 how20
      replace hb := hb.grown hg19 hs (fun k hk => (World.ownsRow.lt r_4 k hk).1)
      replace hs := Nat.le_trans hs (hg19.size)
      have n_p_l := in_p_l.below hb
      replace p_l := n_p_l; clear n_p_l
      replace r_4 := hr18
      refine L_as (L_nil (blkQ_normal (thenQ_normal (W_region (L_addN i 1 (by omega) (by kernel_rfl) (by kernel_rfl) (L_mv (L_nil ?_)))))))
      refine thenQ_normal ⟨_, ?_, (i + 1), (acc ++ [shortS x5]), v16, rfl, hds, by kernel_rfl, by kernel_rfl, by kernel_rfl, by kernel_rfl, p_l, r_4, hb, hs, ?_, ?_, ?_, ?_⟩
      · omega
      · omega
      · (try simp only [List.length_append, List.length_cons, List.length_nil]); omega
      · rw [i3]; exact map_take (by assumption)
      · exact all_take i4 (by assumption) (valid_ok (by assumption))
  · intro h21
    replace h21 : (l).length ≤ i := by omega
    refine L_nil (thenQ_normal (W_seq (W_false (by kernel_rfl) (W_exit (thenQ_exit (thenQ_exit (blkQ_exit (thenQ_normal (W_seq (W_region (L_mv (L_call 45 [v_4, (S ([32] : List UInt8))] (by kernel_rfl) (by kernel_rfl) (c_strings_Join v_4 acc ([32] : List UInt8) _ r_4 (by omega) (by omega)) ?_))))))))))))
    rintro _ w22 ⟨rfl, hB23⟩
    replace hb := hb.trans (hB23.mono hs)
    replace hs := Nat.le_trans hs (hB23.size)
    replace p_l := p_l.below hB23
    replace r_4 := r_4.below hB23
    refine L_as (L_as (L_nil (thenQ_normal (W_ret ?_))))
    refine end_ret [.tmp 2, .tmp 3] [(S (Lib.join acc ([32] : List UInt8))), (.int .i64 0)] rfl hds ⟨by kernel_rfl, by kernel_rfl, trivial⟩ ?_
    have hE : ((Lib.join acc ([32] : List UInt8)) = (writeF l).1) ∧ ((0 : Int) = (writeF l).2) := ⟨(by first | (rw [writeF_all i4 (by omega)]; done) | (rw [writeF_all i4 (by omega), i3, List.take_of_length_le (by omega)]; done) | (rw [writeF_bad (by assumption) (valid_told (by assumption)).1]; try exact (valid_told (by assumption)).2; done)), (by first | (rw [writeF_all i4 (by omega)]; done) | (rw [writeF_all i4 (by omega), i3, List.take_of_length_le (by omega)]; done) | (rw [writeF_bad (by assumption) (valid_told (by assumption)).1]; try exact (valid_told (by assumption)).2; done))⟩
    exact ⟨tup2 (congrArg S hE.1) (congrArg (Value.int .i64) hE.2), hb⟩

set_option maxHeartbeats 4000000 in
set_option maxRecDepth 100000 in
theorem c_furrowref05_Write (v_l : Value) (l : List (Int)) (w : World) (p_l : Rd w encU8 v_l l) (hl : l.length ≤ 1073741824) (hr : ∀ x ∈ l, 0 ≤ x ∧ x ≤ 255) :
    Calls Try.prog 37 #[v_l] w (Ret fun v w' => v = (.tuple #[(S ((writeF l).1)), (.int .i64 ((writeF l).2))]) ∧ Below w.heap.size w w') := by
  refine enter (args := [v_l]) Try.func37 rfl (by kernel_rfl : _ = 28) (by kernel_rfl) ?_
  have hb := Below.refl w.heap.size w
  have hs : w.heap.size ≤ w.heap.size := Nat.le_refl _
  have in_p_l := p_l
  refine W_seq (W_region (L_as (L_as (L_nil (thenQ_normal (W_seq (W_region (L_as (L_nil (thenQ_normal (W_seq (W_seq (W_region (L_as (L_nil (thenQ_normal (W_block ?_)))))))))))))))))
  refine W_loop (fun m s0 w0 => ∃ (i : Nat) (acc : List UInt8), (m = l.length - i) ∧ (s0.ds = []) ∧ (s0.f 0 = v_l) ∧ (s0.f 4 = (S acc)) ∧ (s0.f 5 = (.int .i64 ((i : Nat) : Int))) ∧ (Rd w0 encU8 v_l l) ∧ (Below w.heap.size w w0) ∧ (w.heap.size ≤ w0.heap.size) ∧ (i ≤ l.length) ∧ (acc = Lib.join ((l.take i).map shortS) [32]) ∧ ((l.take i).all validC = true)) _ ⟨0, ([] : List UInt8), rfl, by kernel_rfl, by kernel_rfl, by kernel_rfl, by kernel_rfl, p_l, hb, hs, by omega, rfl, rfl⟩ ?_
  rintro m1 s2 w3 ⟨i, acc, hm, hds, f_0, f_4, f_5, p_l, hb, hs, i1, i3, i4⟩
  refine W_set 0 _ f_0 (W_set 4 _ f_4 (W_set 5 _ f_5 ?_))
  clear f_0 f_4 f_5
  have hjl : acc.length ≤ 31 * l.length := by have h1 := names_len (l := l) (i := i) rfl; rw [i3]; simp only [List.length_map, List.length_take] at h1; omega
  refine W_seq (W_seq (W_region (L_mv (L_mv (L_len 49 34 (l).length v_l rfl Try.underlying49 (p_l).len (by kernel_rfl) (L_cmp .i64 ((i : Nat) : Int) (((l).length : Nat) : Int) (i < (l).length) rfl (cmpN_lt i ((l).length)) (by kernel_rfl) (by kernel_rfl) ?_ ?_))))))
  · intro h4
    replace h4 : i < (l).length := by omega
    refine L_nil (thenQ_normal (W_true (by kernel_rfl) (W_skip (thenQ_normal (W_seq (W_block (W_seq (W_region (L_mv (L_mv ?_))))))))))
    obtain ⟨x5, hx6⟩ := get_some l i (by omega)
    have hz := (p_l).at (k := 1) (fun _ => rfl) hx6
    obtain ⟨g7, off8, hl9, hc10⟩ := hz
    have hxr := hr _ (List.mem_of_getElem? hx6)
    refine L_ixaddr (k := .i64) v_l i _ g7 off8 el49 hl9 (by omega) (by kernel_rfl) (by kernel_rfl) (L_load g7 (off8 + i * 1) (.int .u8 x5) (by kernel_rfl) (by kernel_rfl) (hc10 0 _ rfl) (L_call 31 [(.int .u8 x5)] (by kernel_rfl) (by kernel_rfl) (c_furrowref05_Short x5 _ (by omega) (by omega)) ?_))
    rintro _ w11 ⟨rfl, hB12⟩
    replace hb := hb.trans (hB12.mono hs)
    replace hs := Nat.le_trans hs (hB12.size)
    replace p_l := p_l.below hB12
    have := shortS_len x5
    refine L_as (L_nil (thenQ_normal (W_seq (W_seq (W_region (L_mv (L_seq (shortS x5) ([] : List UInt8) rfl (by kernel_rfl) (by kernel_rfl) ?_ ?_)))))))
    · intro h14
      refine L_nil (thenQ_normal (W_true (by kernel_rfl) (W_seq (W_region (L_as (L_as (L_nil (thenQ_normal (W_ret (thenQ_ret (blkQ_ret (thenQ_ret (thenQ_ret (blkQ_ret (thenQ_ret ?_)))))))))))))))
      refine end_ret [.tmp 2, .tmp 3] [(S ([] : List UInt8)), (.int .i64 2)] rfl hds ⟨by kernel_rfl, by kernel_rfl, trivial⟩ ?_
      have hE : (([] : List UInt8) = (writeF l).1) ∧ ((2 : Int) = (writeF l).2) := ⟨(by first | (rw [writeF_all i4 (by omega)]; first | done | (rw [i3, List.take_of_length_le (by omega)]; done)) | (rw [writeF_bad (by assumption) (valid_nil (by assumption))]; done)), (by first | (rw [writeF_all i4 (by omega)]; first | done | (rw [i3, List.take_of_length_le (by omega)]; done)) | (rw [writeF_bad (by assumption) (valid_nil (by assumption))]; done))⟩
      exact ⟨tup2 (congrArg S hE.1) (congrArg (Value.int .i64) hE.2), hb⟩
    · intro h15
      refine L_nil (thenQ_normal (W_false (by kernel_rfl) (W_skip (thenQ_normal (W_seq (W_seq (W_region (L_mv (L_cmp .i64 ((i : Nat) : Int) ((0 : Nat) : Int) (0 < i) rfl (cmpN_gt i 0) (by kernel_rfl) (by kernel_rfl) ?_ ?_)))))))))
      · intro h16
        replace h16 : 0 < i := by omega
        refine L_nil (thenQ_normal (W_true (by kernel_rfl) (W_region (L_mv (L_sadd acc ([32] : List UInt8) (by first | omega | (simp only [List.length_append, List.length_cons, List.length_nil]; omega)) (by kernel_rfl) (by kernel_rfl) (L_as (L_nil (thenQ_normal (W_region (L_mv (L_mv (L_sadd (acc ++ ([32] : List UInt8)) (shortS x5) (by first | omega | (simp only [List.length_append, List.length_cons, List.length_nil]; omega)) (by kernel_rfl) (by kernel_rfl) (L_as (L_nil (blkQ_normal (thenQ_normal (W_region (L_mv (L_addN i 1 (by omega) (by kernel_rfl) (by kernel_rfl) (L_as (L_nil ?_)))))))))))))))))))))
        refine thenQ_normal ⟨_, ?_, (i + 1), ((acc ++ ([32] : List UInt8)) ++ shortS x5), rfl, hds, by kernel_rfl, by kernel_rfl, by kernel_rfl, p_l, hb, hs, ?_, ?_, ?_⟩
        · omega
        · omega
        · rw [i3]; first | exact join_take (by omega) (by assumption) | exact join_take0 (by omega) (by assumption)
        · exact all_take i4 (by assumption) (valid_some (by assumption))
      · intro h17
        replace h17 : i ≤ 0 := by omega
        refine L_nil (thenQ_normal (W_false (by kernel_rfl) (W_skip (thenQ_normal (W_region (L_mv (L_mv (L_sadd acc (shortS x5) (by first | omega | (simp only [List.length_append, List.length_cons, List.length_nil]; omega)) (by kernel_rfl) (by kernel_rfl) (L_as (L_nil (blkQ_normal (thenQ_normal (W_region (L_mv (L_addN i 1 (by omega) (by kernel_rfl) (by kernel_rfl) (L_as (L_nil ?_)))))))))))))))))
        refine thenQ_normal ⟨_, ?_, (i + 1), (acc ++ shortS x5), rfl, hds, by kernel_rfl, by kernel_rfl, by kernel_rfl, p_l, hb, hs, ?_, ?_, ?_⟩
        · omega
        · omega
        · rw [i3]; first | exact join_take (by omega) (by assumption) | exact join_take0 (by omega) (by assumption)
        · exact all_take i4 (by assumption) (valid_some (by assumption))
  · intro h18
    replace h18 : (l).length ≤ i := by omega
    refine L_nil (thenQ_normal (W_false (by kernel_rfl) (W_exit (thenQ_exit (thenQ_exit (blkQ_exit (thenQ_normal (W_seq (W_region (L_mv (L_as (L_as (L_nil (thenQ_normal (W_ret ?_)))))))))))))))
    refine end_ret [.tmp 2, .tmp 3] [(S acc), (.int .i64 0)] rfl hds ⟨by kernel_rfl, by kernel_rfl, trivial⟩ ?_
    have hE : (acc = (writeF l).1) ∧ ((0 : Int) = (writeF l).2) := ⟨(by first | (rw [writeF_all i4 (by omega)]; first | done | (rw [i3, List.take_of_length_le (by omega)]; done)) | (rw [writeF_bad (by assumption) (valid_nil (by assumption))]; done)), (by first | (rw [writeF_all i4 (by omega)]; first | done | (rw [i3, List.take_of_length_le (by omega)]; done)) | (rw [writeF_bad (by assumption) (valid_nil (by assumption))]; done))⟩
    exact ⟨tup2 (congrArg S hE.1) (congrArg (Value.int .i64) hE.2), hb⟩

set_option maxHeartbeats 4000000 in
set_option maxRecDepth 100000 in
theorem c_furrowlaw05_same (v_a : Value) (a : List (Int)) (v_b : Value) (b : List (Int)) (w : World) (p_a : Rd w encU8 v_a a) (p_b : Rd w encU8 v_b b) (ha : a.length ≤ 1073741824) :
    Calls Try.prog 35 #[v_a, v_b] w (Ret fun v w' => v = (.bool (decide (a = b))) ∧ Below w.heap.size w w') := by
  refine enter (args := [v_a, v_b]) Try.func35 rfl (by kernel_rfl : _ = 26) (by kernel_rfl) ?_
  have hb := Below.refl w.heap.size w
  have hs : w.heap.size ≤ w.heap.size := Nat.le_refl _
  have in_p_a := p_a
  have in_p_b := p_b
  refine W_seq (W_region (L_as (L_nil (thenQ_normal (W_seq (W_seq (W_region (L_mv (L_len 49 34 (a).length v_a rfl Try.underlying49 (p_a).len (by kernel_rfl) (L_mv (L_len 49 34 (b).length v_b rfl Try.underlying49 (p_b).len (by kernel_rfl) (L_cmp .i64 (((a).length : Nat) : Int) (((b).length : Nat) : Int) ((a).length ≠ (b).length) rfl (cmpN_ne ((a).length) ((b).length)) (by kernel_rfl) (by kernel_rfl) ?_ ?_))))))))))))
  · intro h1
    replace h1 : (a).length ≠ (b).length := by omega
    refine L_nil (thenQ_normal (W_true (by kernel_rfl) (W_seq (W_region (L_as (L_nil (thenQ_normal (W_ret (thenQ_ret ?_)))))))))
    refine end_ret [.tmp 4] [(.bool false)] rfl rfl ⟨by kernel_rfl, trivial⟩ ?_
    have e0 : false = decide (a = b) := by first | exact (decide_eq_true (take_eq_len i3 (by omega) (by omega))).symm | exact (decide_eq_false (ne_at (by assumption) (by assumption) (by assumption))).symm | exact (decide_eq_false (fun e => absurd (congrArg List.length e) (by assumption))).symm
    exact ⟨congrArg Value.bool e0, hb⟩
  · intro h2
    replace h2 : (a).length = (b).length := by omega
    refine L_nil (thenQ_normal (W_false (by kernel_rfl) (W_skip (thenQ_normal (W_seq (W_seq (W_region (L_as (L_nil (thenQ_normal (W_block ?_)))))))))))
    refine W_loop (fun m s0 w0 => ∃ (i : Nat), (m = a.length - i) ∧ (s0.ds = []) ∧ (s0.f 0 = v_a) ∧ (s0.f 1 = v_b) ∧ (s0.f 5 = (.int .i64 ((i : Nat) : Int))) ∧ (Rd w0 encU8 v_a a) ∧ (Rd w0 encU8 v_b b) ∧ (Below w.heap.size w w0) ∧ (w.heap.size ≤ w0.heap.size) ∧ (i ≤ a.length) ∧ (a.take i = b.take i)) _ ⟨0, rfl, by kernel_rfl, by kernel_rfl, by kernel_rfl, by kernel_rfl, p_a, p_b, hb, hs, by omega, rfl⟩ ?_
    rintro m3 s4 w5 ⟨i, hm, hds, f_0, f_1, f_5, p_a, p_b, hb, hs, i1, i3⟩
    refine W_set 0 _ f_0 (W_set 1 _ f_1 (W_set 5 _ f_5 ?_))
    clear f_0 f_1 f_5
    refine W_seq (W_seq (W_region (L_mv (L_mv (L_len 49 34 (a).length v_a rfl Try.underlying49 (p_a).len (by kernel_rfl) (L_cmp .i64 ((i : Nat) : Int) (((a).length : Nat) : Int) (i < (a).length) rfl (cmpN_lt i ((a).length)) (by kernel_rfl) (by kernel_rfl) ?_ ?_))))))
    · intro h6
      replace h6 : i < (a).length := by omega
      refine L_nil (thenQ_normal (W_true (by kernel_rfl) (W_skip (thenQ_normal (W_seq (W_block (W_seq (W_quiet (by kernel_rfl) (by kernel_rfl) (Lq_mv (Lq_mv ?_))))))))))
      obtain ⟨x7, hx8⟩ := get_some a i (by omega)
      have hz := (p_a).at (k := 1) (fun _ => rfl) hx8
      obtain ⟨g9, off10, hl11, hc12⟩ := hz
      refine Lq_ixaddr (k := .i64) v_a i _ g9 off10 el49 hl11 (by omega) (by kernel_rfl) (by kernel_rfl) (Lq_load g9 (off10 + i * 1) (.int .u8 x7) (by kernel_rfl) (fun _ => by kernel_rfl) (hc12 0 _ rfl) (Lq_mv (Lq_mv ?_)))
      obtain ⟨x13, hx14⟩ := get_some b i (by omega)
      have hz := (p_b).at (k := 1) (fun _ => rfl) hx14
      obtain ⟨g15, off16, hl17, hc18⟩ := hz
      refine Lq_ixaddr (k := .i64) v_b i _ g15 off16 el49 hl17 (by omega) (by kernel_rfl) (by kernel_rfl) (Lq_load g15 (off16 + i * 1) (.int .u8 x13) (by kernel_rfl) (fun _ => by kernel_rfl) (hc18 0 _ rfl) (Lq_cmp .u8 x7 x13 (x7 ≠ x13) rfl (cmp_ne x7 x13) (by kernel_rfl) (by kernel_rfl) ?_ ?_))
      · intro h19
        replace h19 : x7 ≠ x13 := by omega
        refine Lq_nil ?_
        intro w20 hB21
        replace hb := hb.trans (hB21.mono hs)
        replace hs := Nat.le_trans hs (hB21.size)
        replace p_a := p_a.below hB21
        replace p_b := p_b.below hB21
        refine thenQ_normal (W_true (by kernel_rfl) (W_seq (W_region (L_as (L_nil (thenQ_normal (W_ret (blkQ_ret (thenQ_ret (thenQ_ret (blkQ_ret (thenQ_ret ?_))))))))))))
        refine end_ret [.tmp 4] [(.bool false)] rfl hds ⟨by kernel_rfl, trivial⟩ ?_
        have e0 : false = decide (a = b) := by first | exact (decide_eq_true (take_eq_len i3 (by omega) (by omega))).symm | exact (decide_eq_false (ne_at (by assumption) (by assumption) (by assumption))).symm | exact (decide_eq_false (fun e => absurd (congrArg List.length e) (by assumption))).symm
        exact ⟨congrArg Value.bool e0, hb⟩
      · intro h22
        replace h22 : x7 = x13 := by omega
        refine Lq_nil ?_
        intro w23 hB24
        replace hb := hb.trans (hB24.mono hs)
        replace hs := Nat.le_trans hs (hB24.size)
        replace p_a := p_a.below hB24
        replace p_b := p_b.below hB24
        refine thenQ_normal (W_false (by kernel_rfl) (W_skip (blkQ_normal (thenQ_normal (W_region (L_mv (L_addN i 1 (by omega) (by kernel_rfl) (by kernel_rfl) (L_as (L_nil ?_)))))))))
        refine thenQ_normal ⟨_, ?_, (i + 1), rfl, hds, by kernel_rfl, by kernel_rfl, by kernel_rfl, p_a, p_b, hb, hs, ?_, ?_⟩
        · omega
        · omega
        · exact take_eq_succ i3 (by assumption) (by assumption) (by assumption)
    · intro h25
      replace h25 : (a).length ≤ i := by omega
      refine L_nil (thenQ_normal (W_false (by kernel_rfl) (W_exit (thenQ_exit (thenQ_exit (blkQ_exit (thenQ_normal (W_seq (W_region (L_as (L_nil (thenQ_normal (W_ret ?_)))))))))))))
      refine end_ret [.tmp 4] [(.bool true)] rfl hds ⟨by kernel_rfl, trivial⟩ ?_
      have e0 : true = decide (a = b) := by first | exact (decide_eq_true (take_eq_len i3 (by omega) (by omega))).symm | exact (decide_eq_false (ne_at (by assumption) (by assumption) (by assumption))).symm | exact (decide_eq_false (fun e => absurd (congrArg List.length e) (by assumption))).symm
      exact ⟨congrArg Value.bool e0, hb⟩

set_option maxHeartbeats 4000000 in
set_option maxRecDepth 100000 in
theorem c_furrowref05_Classes (s : List UInt8) (w : World) (hs : s.length ≤ 1073741824) :
    Calls Try.prog 34 #[(S s)] w (Ret fun v w' => ∃ (q0 : Value), v = (.tuple #[q0, (.int .i64 ((classesF s).2.1)), (.int .i64 ((classesF s).2.2))]) ∧ Row w' w.heap.size 34 1 encU8 q0 ((classesF s).1) ∧ Below w.heap.size w w') := by
  refine enter (args := [(S s)]) Try.func34 rfl (by kernel_rfl : _ = 35) (by kernel_rfl) ?_
  have hb := Below.refl w.heap.size w
  have hs : w.heap.size ≤ w.heap.size := Nat.le_refl _
  refine W_seq (W_region (L_as (L_as (L_as (L_nil (thenQ_normal (W_seq (W_region (L_mv (L_call 16 [(S s)] (by kernel_rfl) (by kernel_rfl) (c_furrowref05_Words s _ (by omega)) ?_))))))))))
  rintro q1 w2 ⟨_, rfl, r_q1, hB3⟩
  replace r_q1 := r_q1.base hs
  replace hb := hb.trans (hB3.mono hs)
  replace hs := Nat.le_trans hs (hB3.size)
  refine L_as (L_nil (thenQ_normal (W_seq (W_region (L_as (L_nil (thenQ_normal (W_seq (W_seq (W_region (L_as (L_nil (thenQ_normal (W_block ?_))))))))))))))
  refine W_loop (fun m s0 w0 => ∃ (i : Nat) (acc : List Int) (v_6 : Value), (m = (wordsOf s).length - i) ∧ (s0.ds = []) ∧ (s0.f 5 = q1) ∧ (s0.f 6 = v_6) ∧ (s0.f 7 = (.int .i64 ((i : Nat) : Int))) ∧ (Row w0 w.heap.size 30 2 encWord q1 (wordsOf s)) ∧ (Row w0 w.heap.size 34 1 encU8 v_6 acc) ∧ (Below w.heap.size w w0) ∧ (w.heap.size ≤ w0.heap.size) ∧ (i ≤ (wordsOf s).length) ∧ (acc.length ≤ i) ∧ (((wordsOf s).take i).foldl cstep ([], 0, 0) = (acc, 0, 0))) _ ⟨0, [], (.slice none 0 0), rfl, by kernel_rfl, by kernel_rfl, by kernel_rfl, by kernel_rfl, r_q1, Row.nil _ _ _ _ _, hb, hs, by omega, Nat.le_refl _, rfl⟩ ?_
  rintro m5 s6 w7 ⟨i, acc, v_6, hm, hds, f_5, f_6, f_7, r_q1, r_6, hb, hs, i1, i2, i3⟩
  refine W_set 5 _ f_5 (W_set 6 _ f_6 (W_set 7 _ f_7 ?_))
  clear f_5 f_6 f_7
  have hwl := words_le s
  refine W_seq (W_seq (W_region (L_mv (L_mv (L_len 24 30 (wordsOf s).length q1 rfl Try.underlying24 (r_q1.rd).len (by kernel_rfl) (L_cmp .i64 ((i : Nat) : Int) (((wordsOf s).length : Nat) : Int) (i < (wordsOf s).length) rfl (cmpN_lt i ((wordsOf s).length)) (by kernel_rfl) (by kernel_rfl) ?_ ?_))))))
  · intro h8
    replace h8 : i < (wordsOf s).length := by omega
    refine L_nil (thenQ_normal (W_true (by kernel_rfl) (W_skip (thenQ_normal (W_seq (W_block (W_seq (W_region (L_mv (L_mv ?_))))))))))
    obtain ⟨x9, hx10⟩ := get_some (wordsOf s) i (by omega)
    have hz := (r_q1.rd).at (k := 2) (fun _ => rfl) hx10
    obtain ⟨g11, off12, hl13, hc14⟩ := hz
    have hwm := words_mem hx10
    refine L_ixaddr (k := .i64) q1 i _ g11 off12 el24 hl13 (by omega) (by kernel_rfl) (by kernel_rfl) (L_run (.pointer (some ⟨g11, ((off12 + i * 2) + 1), none⟩)) (by kernel_rfl) (by kernel_rfl) (L_load g11 ((off12 + i * 2) + 1) (S x9.2) (by kernel_rfl) (by kernel_rfl) (hc14 1 _ rfl) (L_call 22 [(S x9.2)] (by kernel_rfl) (by kernel_rfl) (c_furrowref05_Class x9.2 _ (by omega)) ?_)))
    rintro _ w15 ⟨rfl, hB16⟩
    replace hb := hb.trans (hB16.mono hs)
    replace hs := Nat.le_trans hs (hB16.size)
    replace r_q1 := r_q1.below hB16
    replace r_6 := r_6.below hB16
    refine L_as (L_nil (thenQ_normal (W_seq (W_seq (W_region (L_mv (L_cmp .u8 ((classF x9.2).1) 0 ((classF x9.2).1 = 0) rfl (cmp_eq ((classF x9.2).1) 0) (by kernel_rfl) (by kernel_rfl) ?_ ?_)))))))
    · intro h18
      replace h18 : (classF x9.2).1 = 0 := by omega
      refine L_nil (thenQ_normal (W_true (by kernel_rfl) (W_seq (W_quiet (by kernel_rfl) (by kernel_rfl) (Lq_mv (Lq_mv ?_))))))
      have hz := (r_q1.rd).at (k := 2) (fun _ => rfl) hx10
      obtain ⟨g21, off22, hl23, hc24⟩ := hz
      refine Lq_ixaddr (k := .i64) q1 i _ g21 off22 el24 hl23 (by omega) (by kernel_rfl) (by kernel_rfl) (Lq_run (.pointer (some ⟨g21, (off22 + i * 2), none⟩)) (fun _ => by kernel_rfl) (Lq_load g21 (off22 + i * 2) (.int .i64 x9.1) (by kernel_rfl) (fun _ => by kernel_rfl) (hc24 0 _ rfl) (Lq_as (Lq_as (Lq_as (Lq_nil ?_))))))
      intro w25 hB26
      replace hb := hb.trans (hB26.mono hs)
      replace hs := Nat.le_trans hs (hB26.size)
      replace r_q1 := r_q1.below hB26
      replace r_6 := r_6.below hB26
      refine thenQ_normal (W_ret (thenQ_ret (blkQ_ret (thenQ_ret (thenQ_ret (blkQ_ret (thenQ_ret ?_)))))))
      refine end_ret [.tmp 2, .tmp 3, .tmp 4] [(.slice none 0 0), (.int .i64 x9.1), (.int .i64 50)] rfl hds ⟨by kernel_rfl, by kernel_rfl, by kernel_rfl, trivial⟩ ?_
      have hE : ((x9.1 : Int) = (classesF s).2.1) ∧ ((50 : Int) = (classesF s).2.2) ∧ (([] : List (Int)) = (classesF s).1) := ⟨(by first | (rw [classes_all (by omega) i3]; done) | (rw [classes_stop (by assumption) i3 (by assumption)]; done)), (by first | (rw [classes_all (by omega) i3]; done) | (rw [classes_stop (by assumption) i3 (by assumption)]; done)), (by first | (rw [classes_all (by omega) i3]; done) | (rw [classes_stop (by assumption) i3 (by assumption)]; done))⟩
      exact ⟨(.slice none 0 0), tup3 (rfl) (congrArg (Value.int .i64) hE.1) (congrArg (Value.int .i64) hE.2.1), (Row.nil _ _ _ _ _).cast hE.2.2, hb⟩
    · intro h27
      replace h27 : (classF x9.2).1 ≠ 0 := by omega
      refine L_nil (thenQ_normal (W_false (by kernel_rfl) (W_skip (thenQ_normal (W_region (L_mv (L_mv (L_app el49 w.heap.size v_6 acc ((classF x9.2).1) hs r_6 (by omega) (by kernel_rfl) rfl rfl (by kernel_rfl) rfl (by kernel_rfl) (by kernel_rfl) ?_))))))))
      intro v28 w29 hr30 hg31 how32
      replace hb := hb.grown hg31 hs (fun k hk => (World.ownsRow.lt r_6 k hk).1)
      replace hs := Nat.le_trans hs (hg31.size)
      have n_r_q1 := r_q1.grown hg31 (r_q1.apart r_6 (by kernel_rfl))
      replace r_q1 := n_r_q1; clear n_r_q1
      replace r_6 := hr30
      refine L_as (L_nil (blkQ_normal (thenQ_normal (W_region (L_mv (L_addN i 1 (by omega) (by kernel_rfl) (by kernel_rfl) (L_as (L_nil ?_))))))))
      refine thenQ_normal ⟨_, ?_, (i + 1), (acc ++ [(classF x9.2).1]), v28, rfl, hds, by kernel_rfl, by kernel_rfl, by kernel_rfl, r_q1, r_6, hb, hs, ?_, ?_, ?_⟩
      · omega
      · omega
      · (try simp only [List.length_append, List.length_cons, List.length_nil]); omega
      · exact classes_more (by assumption) i3 (by assumption)
  · intro h33
    replace h33 : (wordsOf s).length ≤ i := by omega
    refine L_nil (thenQ_normal (W_false (by kernel_rfl) (W_exit (thenQ_exit (thenQ_exit (blkQ_exit (thenQ_normal (W_seq (W_region (L_mv (L_as (L_as (L_as (L_nil (thenQ_normal (W_ret ?_))))))))))))))))
    refine end_ret [.tmp 2, .tmp 3, .tmp 4] [v_6, (.int .i64 0), (.int .i64 0)] rfl hds ⟨by kernel_rfl, by kernel_rfl, by kernel_rfl, trivial⟩ ?_
    have hE : ((0 : Int) = (classesF s).2.1) ∧ ((0 : Int) = (classesF s).2.2) ∧ (acc = (classesF s).1) := ⟨(by first | (rw [classes_all (by omega) i3]; done) | (rw [classes_stop (by assumption) i3 (by assumption)]; done)), (by first | (rw [classes_all (by omega) i3]; done) | (rw [classes_stop (by assumption) i3 (by assumption)]; done)), (by first | (rw [classes_all (by omega) i3]; done) | (rw [classes_stop (by assumption) i3 (by assumption)]; done))⟩
    exact ⟨v_6, tup3 (rfl) (congrArg (Value.int .i64) hE.1) (congrArg (Value.int .i64) hE.2.1), r_6.cast hE.2.2, hb⟩

end Go.Proofs.Ytbknjmjflfkhkaa
