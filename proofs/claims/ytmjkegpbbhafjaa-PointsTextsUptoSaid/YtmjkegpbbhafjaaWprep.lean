/- Walks, written by my program walk.py out of the specification prep.py: each theorem says what one function returns and that it leaves memory as it was. -/
import Derived.Test.YtmjkegpbbhafjaaPRep
import Derived.Test.YtmjkegpbbhafjaaWphex
import Derived.Test.YtmjkegpbbhafjaaWpmap
import Derived.Test.YtmjkegpbbhafjaaFKs
import Derived.Test.YtmjkegpbbhafjaaProg
import Derived.Tactics2
namespace Go.Proofs.Ytmjkegpbbhafjaa
open Go Go.RowKit Go.FK
set_option linter.unusedVariables false


set_option maxHeartbeats 4000000 in
set_option maxRecDepth 100000 in
theorem c_insert_S (B_ : Nat) (v_s : Value) (s : List (Int × Int × List UInt8)) (i : Nat) (v_vs : Value) (vs : List (Int × Int × List UInt8)) (w : World) (hs0 : B_ ≤ w.heap.size) (p_s : Row w B_ 152 3 encSpanS v_s s) (p_vs : Rd w encSpanS v_vs vs) (hi : i ≤ s.length) (hp : vs.length = 0 ∨ i = s.length) (hl : s.length ≤ 1073741824) (hv : vs.length ≤ 1073741824) :
    Calls Try.prog 141 #[v_s, (.int .i64 ((i : Nat) : Int)), v_vs] w (Ret fun v w' => ∃ q0 : Value, v = q0 ∧ Row w' B_ 152 3 encSpanS q0 (s ++ vs) ∧ (∀ g, Value.ownBlock q0 = some g → w.heap.size ≤ g ∨ Value.ownBlock v_s = some g) ∧ Ch (fun k => Value.ownBlock v_s = some k) w w') := by
  refine enter (args := [v_s, (.int .i64 ((i : Nat) : Int)), v_vs]) Try.func141 rfl (by kernel_rfl : _ = 95) (by kernel_rfl) ?_
  have hb := Below.refl B_ w
  have hs : B_ ≤ (World.heap w).size := hs0
  have hc := Ch.refl (fun k => Value.ownBlock v_s = some k) w
  have dr_p_s : ∀ g, Value.ownBlock v_s = some g → (World.heap w).size ≤ g ∨ (fun k => Value.ownBlock v_s = some k) g := fun g h => .inr h
  have in_p_vs := p_vs
  refine W_seq (W_region (L_as (L_nil (thenQ_normal (W_seq (W_region (L_mv (L_mv (L_slfrom el148 v_s ((s).length) i (p_s.shape) (by omega) (by kernel_rfl) ⟨.i64, by kernel_rfl⟩ ?_)))))))))
  intro vt1 hT2
  refine L_nil (thenQ_normal (W_seq (W_region (L_mv (L_len 148 152 (vs).length v_vs rfl Try.underlying148 (p_vs).len (by kernel_rfl) (L_as (L_nil (thenQ_normal (W_seq (W_seq (W_region (L_mv (L_cmp .i64 (((vs).length : Nat) : Int) ((0 : Nat) : Int) ((vs).length = 0) rfl (cmpN_eq ((vs).length) 0) (by kernel_rfl) (by kernel_rfl) ?_ ?_)))))))))))))
  · intro h3
    replace h3 : (vs).length = 0 := by omega
    refine L_nil (thenQ_normal (W_true (by kernel_rfl) (W_seq (W_region (L_mv (L_as (L_nil (thenQ_normal (W_ret (thenQ_ret ?_))))))))))
    refine end_ret [.tmp 6] [v_s] rfl rfl ⟨by kernel_rfl, trivial⟩ ?_
    have e0 : s = (s ++ vs) := by first | rfl | (rw [List.eq_nil_of_length_eq_zero (l := vs) (by omega), List.append_nil])
    exact ⟨_, rfl, p_s.cast e0, dr_p_s, hc⟩
  · intro h4
    replace h4 : (vs).length ≠ 0 := by omega
    refine L_nil (thenQ_normal (W_false (by kernel_rfl) (W_skip (thenQ_normal (W_seq (W_region (L_mv (L_len 148 152 (s).length v_s rfl Try.underlying148 (p_s.rd).len (by kernel_rfl) (L_as (L_nil (thenQ_normal (W_seq (W_seq (W_region (L_mv (L_mv (L_cmp .i64 ((i : Nat) : Int) (((s).length : Nat) : Int) (i = (s).length) rfl (cmpN_eq i ((s).length)) (by kernel_rfl) (by kernel_rfl) ?_ ?_)))))))))))))))))
    · intro h5
      replace h5 : i = (s).length := by omega
      refine L_nil (thenQ_normal (W_true (by kernel_rfl) (W_seq (W_region (L_mv (L_mv (L_appAll el148 B_ v_s v_vs s vs hs p_s p_vs (by omega) (fun _ => rfl) (fun _ => rfl) (by kernel_rfl) (by kernel_rfl) (by kernel_rfl) ?_)))))))
      intro v6 w7 hr8 hg9 how10 
      have dr2 := dr_app (D := (fun k => Value.ownBlock v_s = some k)) how10 (by have h0 := hc.size; omega : (World.heap w).size ≤ (World.heap w).size) dr_p_s
      replace hb := hb.grown hg9 hs (fun k hk => (World.ownsRow.lt p_s k hk).1)
      replace hc := hc.trans2 (Ch.of_grown hg9) (fun k e => dr_p_s k e)
      replace hs := Nat.le_trans hs (hg9.size)
      replace p_s := hr8
      have dr_p_s := dr2; clear dr2
      refine L_as (L_nil (thenQ_normal (W_ret (thenQ_ret ?_))))
      refine end_ret [.tmp 6] [v6] rfl rfl ⟨by kernel_rfl, trivial⟩ ?_
      have e0 : (s ++ vs) = (s ++ vs) := by first | rfl | (rw [List.eq_nil_of_length_eq_zero (l := vs) (by omega), List.append_nil])
      exact ⟨_, rfl, p_s.cast e0, dr_p_s, hc⟩
    · intro h11
      replace h11 : i ≠ (s).length := by omega
      exfalso; omega

set_option maxHeartbeats 4000000 in
set_option maxRecDepth 100000 in
theorem c_replace_S (B_ : Nat) (v_s : Value) (s : List (Int × Int × List UInt8)) (i : Nat) (j : Nat) (v_vs : Value) (vs : List (Int × Int × List UInt8)) (w : World) (hs0 : B_ ≤ w.heap.size) (p_s : Row w B_ 152 3 encSpanS v_s s) (p_vs : Rd w encSpanS v_vs vs) (hij : i ≤ j) (hj : j ≤ s.length) (hp : (i = j ∧ (vs.length = 0 ∨ i = s.length)) ∨ (i < j ∧ j = s.length)) (hl : s.length ≤ 1073741824) (hv : vs.length ≤ 1073741824) :
    Calls Try.prog 104 #[v_s, (.int .i64 ((i : Nat) : Int)), (.int .i64 ((j : Nat) : Int)), v_vs] w (Ret fun v w' => ∃ q0 : Value, v = q0 ∧ Row w' B_ 152 3 encSpanS q0 (List.take i s ++ vs ++ List.drop j s) ∧ (∀ g, Value.ownBlock q0 = some g → w.heap.size ≤ g ∨ Value.ownBlock v_s = some g) ∧ Ch (fun k => Value.ownBlock v_s = some k) w w') := by
  refine enter (args := [v_s, (.int .i64 ((i : Nat) : Int)), (.int .i64 ((j : Nat) : Int)), v_vs]) Try.func104 rfl (by kernel_rfl : _ = 224) (by kernel_rfl) ?_
  have hb := Below.refl B_ w
  have hs : B_ ≤ (World.heap w).size := hs0
  have hc := Ch.refl (fun k => Value.ownBlock v_s = some k) w
  have dr_p_s : ∀ g, Value.ownBlock v_s = some g → (World.heap w).size ≤ g ∨ (fun k => Value.ownBlock v_s = some k) g := fun g h => .inr h
  have in_p_vs := p_vs
  refine W_seq (W_region (L_as (L_nil (thenQ_normal (W_seq (W_region (L_mv (L_mv (L_mv (L_slmid el148 v_s ((s).length) i j (p_s.shape) (by first | omega | (simp only [List.length_append, List.length_take]; omega)) (by first | omega | (simp only [List.length_append, List.length_take]; omega)) (by kernel_rfl) ⟨.i64, by kernel_rfl⟩ ⟨.i64, by kernel_rfl⟩ ?_))))))))))
  intro vt1
  refine L_nil (thenQ_normal (W_seq (W_seq (W_region (L_mv (L_mv (L_cmp .i64 ((i : Nat) : Int) ((j : Nat) : Int) (i = j) rfl (cmpN_eq i j) (by kernel_rfl) (by kernel_rfl) ?_ ?_)))))))
  · intro h2
    replace h2 : i = j := by omega
    refine L_nil (thenQ_normal (W_true (by kernel_rfl) (W_seq (W_region (L_mv (L_mv (L_mv (L_call 141 [v_s, (.int .i64 ((i : Nat) : Int)), v_vs] (by kernel_rfl) (by kernel_rfl) (c_insert_S B_ v_s s i v_vs vs _ hs p_s p_vs (by first | omega | (simp only [List.length_append, List.length_take]; omega)) (by first | omega | (simp only [List.length_append, List.length_take]; omega)) (by first | omega | (simp only [List.length_append, List.length_take]; omega)) (by first | omega | (simp only [List.length_append, List.length_take]; omega))) ?_))))))))
    rintro q3 w4 ⟨_, rfl, r_q3, dm5, hC6⟩
    have dr_r_q3 := dr_call hc dm5 dr_p_s
    replace hc := hc.trans2 hC6 (fun k e => dr_p_s k e)
    replace hb := hC6.below hb hs (fun k e => (World.ownsRow.lt p_s k e).1)
    replace hs := Nat.le_trans hs hC6.size
    refine L_as (L_nil (thenQ_normal (W_ret (thenQ_ret ?_))))
    refine end_ret [.tmp 8] [q3] rfl rfl ⟨by kernel_rfl, trivial⟩ ?_
    have e0 : (s ++ vs) = (List.take i s ++ vs ++ List.drop j s) := by first | exact rep_same (by omega) (by omega) | exact rep_end (by omega)
    exact ⟨_, rfl, r_q3.cast e0, dr_r_q3, hc⟩
  · intro h7
    replace h7 : i ≠ j := by omega
    refine L_nil (thenQ_normal (W_false (by kernel_rfl) (W_skip (thenQ_normal (W_seq (W_seq (W_region (L_mv (L_mv (L_len 148 152 (s).length v_s rfl Try.underlying148 (p_s.rd).len (by kernel_rfl) (L_cmp .i64 ((j : Nat) : Int) (((s).length : Nat) : Int) (j = (s).length) rfl (cmpN_eq j ((s).length)) (by kernel_rfl) (by kernel_rfl) ?_ ?_)))))))))))
    · intro h8
      replace h8 : j = (s).length := by omega
      refine L_nil (thenQ_normal (W_true (by kernel_rfl) (W_seq (W_region (L_mv (L_mv (L_sltoR el148 v_s s i p_s (fun _ => rfl) (by first | omega | (simp only [List.length_append, List.length_take]; omega)) (by kernel_rfl) ⟨.i64, by kernel_rfl⟩ ?_)))))))
      intro vp9 r_vp10 hsc11
      have dr_r_vp10 : ∀ g, Value.ownBlock vp9 = some g → (World.heap w).size ≤ g ∨ (fun k => Value.ownBlock v_s = some k) g := by rw [hsc11.own]; exact dr_p_s
      refine L_mv (L_appPre el148 B_ vp9 v_vs (List.take i s) vs hs r_vp10 p_vs (by first | omega | (simp only [List.length_append, List.length_take]; omega)) (fun _ => rfl) (fun _ => rfl) (by kernel_rfl) (by kernel_rfl) (by kernel_rfl) ?_)
      have sh_p_s := p_s.shape
      intro v13 w14 hr15 hg16 how17 hcp18
      have room_p_s := room_app p_s hsc11 hr15 hcp18
      have dr2 := dr_app (D := (fun k => Value.ownBlock v_s = some k)) how17 (by have h0 := hc.size; omega : (World.heap w).size ≤ (World.heap w).size) dr_r_vp10
      replace hb := hb.grown hg16 hs (fun k hk => (World.ownsRow.lt r_vp10 k hk).1)
      replace hc := hc.trans2 (Ch.of_grown hg16) (fun k e => dr_r_vp10 k e)
      replace hs := Nat.le_trans hs (hg16.size)
      replace r_vp10 := hr15
      have dr_r_vp10 := dr2; clear dr2
      refine L_as (L_nil (thenQ_normal (W_seq (W_seq (W_region (L_mv (L_len 148 152 (((List.take i s) ++ vs)).length v13 rfl Try.underlying148 (r_vp10.rd).len (by kernel_rfl) (L_mv (L_len 148 152 ((s).length) v_s rfl Try.underlying148 sh_p_s.len (by kernel_rfl) (L_cmp .i64 (((((List.take i s) ++ vs)).length : Nat) : Int) (((s).length : Nat) : Int) ((((List.take i s) ++ vs)).length < (s).length) rfl (cmpN_lt ((((List.take i s) ++ vs)).length) ((s).length)) (by kernel_rfl) (by kernel_rfl) ?_ ?_))))))))))
      · intro h19
        replace h19 : (((List.take i s) ++ vs)).length < (s).length := by omega
        refine L_nil (thenQ_normal (W_true (by kernel_rfl) (W_region (L_mv (L_mv (L_len 148 152 (((List.take i s) ++ vs)).length v13 rfl Try.underlying148 (r_vp10.rd).len (by kernel_rfl) (L_slfrom el148 v_s ((s).length) ((((List.take i s) ++ vs)).length) sh_p_s (by first | omega | (simp only [List.length_append, List.length_take]; omega)) (by kernel_rfl) ⟨.i64, by kernel_rfl⟩ ?_)))))))
        intro vt20 hT21
        refine L_clearTail el148 v_s v13 vt20 ((List.take i s) ++ vs) hT21 room_p_s r_vp10 (by first | omega | (simp only [List.length_append, List.length_take]; omega)) (by first | omega | (simp only [List.length_append, List.length_take]; omega)) sh_p_s (fun z hz => by cases hz; decide) (by kernel_rfl) ?_
        intro w22 hr23 hg24
        replace hc := hc.trans2 (Ch.of_grown hg24) (fun k e => dr_p_s k e)
        replace r_vp10 := hr23
        replace hs := Nat.le_trans hs hg24.size
        refine L_nil (thenQ_normal (W_seq (W_region (L_mv (L_as (L_nil (thenQ_normal (W_ret (thenQ_ret ?_)))))))))
        refine end_ret [.tmp 8] [v13] rfl rfl ⟨by kernel_rfl, trivial⟩ ?_
        have e0 : ((List.take i s) ++ vs) = (List.take i s ++ vs ++ List.drop j s) := by first | exact rep_same (by omega) (by omega) | exact rep_end (by omega)
        exact ⟨_, rfl, r_vp10.cast e0, dr_r_vp10, hc⟩
      · intro h25
        replace h25 : (s).length ≤ (((List.take i s) ++ vs)).length := by omega
        refine L_nil (thenQ_normal (W_false (by kernel_rfl) (W_skip (thenQ_normal (W_seq (W_region (L_mv (L_as (L_nil (thenQ_normal (W_ret (thenQ_ret ?_))))))))))))
        refine end_ret [.tmp 8] [v13] rfl rfl ⟨by kernel_rfl, trivial⟩ ?_
        have e0 : ((List.take i s) ++ vs) = (List.take i s ++ vs ++ List.drop j s) := by first | exact rep_same (by omega) (by omega) | exact rep_end (by omega)
        exact ⟨_, rfl, r_vp10.cast e0, dr_r_vp10, hc⟩
    · intro h26
      replace h26 : j ≠ (s).length := by omega
      exfalso; omega

end Go.Proofs.Ytmjkegpbbhafjaa
