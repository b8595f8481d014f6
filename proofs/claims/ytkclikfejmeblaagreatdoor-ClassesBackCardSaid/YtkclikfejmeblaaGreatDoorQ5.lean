/- Joined by my program pack.py out of my own texts: WcnC. -/
import Derived.Test.YtkclikfejmeblaaGreatDoorProg
import Derived.Tactics2
import Derived.Test.YtkclikfejmeblaaGreatDoorQ2
import Derived.Test.YtkclikfejmeblaaGreatDoorQ3
import Derived.Test.YtkclikfejmeblaaGreatDoorQ4
set_option linter.unusedVariables false
set_option linter.unusedSimpArgs false
/- === WcnC === -/
section
/- Walks, written by my program walk.py out of the specification cnC.py: each theorem says what one function returns and that it leaves memory as it was. -/
namespace Go.Proofs.YtkclikfejmeblaaGreatDoor
open Go Go.RowKit Go.FK
set_option maxHeartbeats 4000000
set_option maxRecDepth 100000
set_option linter.unusedVariables false
set_option linter.unusedSimpArgs false
theorem c_cut_C (b_m : Nat) (v_xs : Value) (xs : List (Int × Int × Int)) (lo : Int) (hi : Int) (B_ : Nat) (w : World) (hs0 : B_ ≤ w.heap.size) (o_m : w.heap[b_m]? = some (.cells [v_xs, (.bool true)].toArray 115 (0, 0))) (g_m : B_ ≤ b_m) (p_xs : Row w B_ 126 3 encSpanC v_xs xs) (hr : RiseG 0 xs) (hlo : -2147483648 ≤ lo ∧ lo ≤ 2147483647) (hhi : -2147483648 ≤ hi ∧ hi ≤ 2147483647) :
  Calls Tryz.prog 65 #[(.pointer (some ⟨b_m, 0, none⟩)), (Value.agg #[(.int .i32 lo), (.int .i32 hi)])] w (Ret fun v w' => ∃ q0 : Value, v = (.tuple #[(.int .i64 (cutN xs lo hi)), (.int .i64 (layE lo hi))]) ∧ w'.heap[b_m]? = some (.cells [q0, (.bool true)].toArray 115 (0, 0)) ∧ Row w' B_ 126 3 encSpanC q0 (cutM xs lo hi) ∧ (∀ g, Value.ownBlock q0 = some g → w.heap.size ≤ g ∨ (Dm b_m v_xs) g) ∧ Ch (Dm b_m v_xs) w w') := by
 refine K11 (enter (args := [(.pointer (some ⟨b_m, 0, none⟩)), (Value.agg #[(.int .i32 lo), (.int .i32 hi)])]) Tryz.func65 rfl (by kernel_rfl : _ = 111)) ?_
 have hb := Below.refl B_ w
 have hs : B_ ≤ (World.heap w).size := hs0
 have hc := Ch.refl (Dm b_m v_xs) w
 have dk_m : (World.heap w).size ≤ b_m ∨ (Dm b_m v_xs) b_m := .inr (.inl rfl)
 have dr_p_xs : ∀ g, Value.ownBlock v_xs = some g → (World.heap w).size ≤ g ∨ (Dm b_m v_xs) g := fun g h => .inr (.inr h)
 have hln := hr.len
 refine zF (zD (K21 (yW (fun b => .pointer (some ⟨b, 0, none⟩)) (.cells [(.int .i32 lo), (.int .i32 hi)].toArray 32 (0, 0))) ?_))
 intro b1 w2 hN3
 have g_x3 : B_ ≤ b1 := by rw [hN3.num]; exact hs
 have dk_x3 : (World.heap w).size ≤ b1 ∨ (Dm b_m v_xs) b1 := .inl (by rw [hN3.num]; exact hc.size)
 replace hb := hb.trans (hN3.below.mono hs)
 replace hc := hc.trans2 (Ch.of_below hN3.below) (fun _ h => h.elim)
 replace hs := Nat.le_trans hs (hN3.below.size)
 replace o_m := zB o_m hN3.below
 replace p_xs := p_xs.below hN3.below
 have o_x3 := hN3.here
 refine zJ (zJ (zE (zA (zF (yP (zF (zD (zI (K22 (yA 63 [(.pointer (some ⟨b_m, 0, none⟩))]) (c_none_C b_m v_xs xs _ o_m p_xs.rd) ?_)))))))))
 rintro _ w4 ⟨rfl, hB5⟩
 replace hb := hb.trans (hB5.mono hs)
 replace hc := hc.trans2 (Ch.of_below hB5) (fun _ h => h.elim)
 replace hs := Nat.le_trans hs (hB5.size)
 replace o_m := zB o_m hB5
 replace o_x3 := zB o_x3 hB5
 replace p_xs := p_xs.below hB5
 refine zJ (zE (zA (K11 zN (zF (zD (K32 (yH b1 0 [(.int .i32 lo), (.int .i32 hi)]) (K10 (yN o_x3 0)) (K22 (yA 64 [(Value.agg #[(.int .i32 lo), (.int .i32 hi)])]) (c_points_May lo hi _) ?_)))))))
 rintro _ w7 ⟨rfl, hB8⟩
 replace hb := hb.trans (hB8.mono hs)
 replace hc := hc.trans2 (Ch.of_below hB8) (fun _ h => h.elim)
 replace hs := Nat.le_trans hs (hB8.size)
 replace o_m := zB o_m hB8
 replace o_x3 := zB o_x3 hB8
 replace p_xs := p_xs.below hB8
 refine xK (mayF lo hi) ?_ ?_
 ·intro h10
  have hmb := mayG_b h10
  refine K11 (L_not true) (zJ (zE (zA (K11 zN (zV (zP (zA (zF (zD (zJ (zE (zA (zF (zD (zI (K21 (zQ (.pointer (some ⟨b1, 0, none⟩))) (K22 (zZ b1 0 (.int .i32 lo)) (zM o_x3 rfl) (K22 (yA 66 [(.pointer (some ⟨b_m, 0, none⟩)), (.int .i32 lo)]) (c_from_C b_m v_xs xs lo _ o_m p_xs.rd (by exact hr) (by omega)) ?_))))))))))))))))))
  rintro _ w11 ⟨rfl, hB12⟩
  replace hb := hb.trans (hB12.mono hs)
  replace hc := hc.trans2 (Ch.of_below hB12) (fun _ h => h.elim)
  replace hs := Nat.le_trans hs (hB12.size)
  replace o_m := zB o_m hB12
  replace o_x3 := zB o_x3 hB12
  replace p_xs := p_xs.below hB12
  have := fromG_le xs lo
  refine zJ (zE (zA (zF (zD (zI (zJ (zE (zA (zF (zD (zJ (zE (zA (zF (yP ?_)))))))))))))))
  refine W_loop (fun m s0 w0 => ∃ (j : Nat) (z : Int) (ys : List SpI) (v_9 : Value), (m = xs.length - j) ∧ (s0.ds = []) ∧ (s0.f 0 = (.pointer (some ⟨b_m, 0, none⟩))) ∧ (s0.f 3 = (.pointer (some ⟨b1, 0, none⟩))) ∧ (s0.f 4 = (.int .i64 0)) ∧ (s0.f 5 = (.int .i64 0)) ∧ (s0.f 7 = (.int .i64 (((fromG xs lo) : Nat) : Int))) ∧ (s0.f 6 = (.int .i64 z)) ∧ (s0.f 8 = (.int .i64 ((j : Nat) : Int))) ∧ (s0.f 9 = v_9) ∧ (Row w0 B_ 126 3 encSpanC v_xs xs) ∧ (Row w0 B_ 126 3 encSpanC v_9 ys) ∧ (w0.heap[b_m]? = some (.cells [v_xs, (.bool true)].toArray 115 (0, 0))) ∧ (w0.heap[b1]? = some (.cells [(.int .i32 lo), (.int .i32 hi)].toArray 32 (0, 0))) ∧ (Value.ownBlock v_xs = none ∨ Value.ownBlock v_xs ≠ Value.ownBlock v_9) ∧ (Below B_ w w0) ∧ (Ch (Dm b_m v_xs) w w0) ∧ (∀ g, Value.ownBlock v_9 = some g → (World.heap w).size ≤ g ∨ (Dm b_m v_xs) g) ∧ (B_ ≤ w0.heap.size) ∧ (cutI lo hi xs j z ys)) _ ⟨(fromG xs lo), 0, [], (.slice none 0 0), rfl, by kernel_rfl, by kernel_rfl, by kernel_rfl, by kernel_rfl, by kernel_rfl, by kernel_rfl, by kernel_rfl, by kernel_rfl, by kernel_rfl, p_xs, Row.nil _ _ _ _ _, o_m, o_x3, ap_nil _, hb, hc, dr_nil _, hs, cutI_zero⟩ ?_
  rintro m14 s15 w16 ⟨j, z, ys, v_9, hm, hds, f_0, f_3, f_4, f_5, f_7, f_6, f_8, f_9, p_xs, r_9, o_m, o_x3, ap_p_xs_r_9, hb, hc, dr_r_9, hs, i1⟩
  refine yK 0 _ f_0 (yK 3 _ f_3 (yK 4 _ f_4 (yK 5 _ f_5 (yK 7 _ f_7 (yK 6 _ f_6 (yK 8 _ f_8 (yK 9 _ f_9 ?_)))))))
  clear f_0 f_3 f_4 f_5 f_7 f_6 f_8 f_9
  have ap_r_9_p_xs := ap_comm ap_p_xs_r_9
  have hcb := i1.2.2.2.2
  have hcj := i1.2.1
  have hci := i1.1
  refine zF (zF (K21 W_quiet (yI (yI (yS (.pointer (some ⟨b_m, 0, none⟩)) (fun _ => by kernel_rfl) (yS (.pointer (some ⟨b_m, 0, none⟩)) (fun _ => by kernel_rfl) (K13 (yY b_m 0 v_xs) (fun _ => by kernel_rfl) (zM o_m rfl) (K11 (Lq_len 113 126 (xs).length v_xs rfl Tryz.underlying113 (p_xs.rd).len) (K22 (Lq_cmp .i64 ((j : Nat) : Int) (((xs).length : Nat) : Int) (j < (xs).length) rfl (cmpN_lt j ((xs).length))) ?_ ?_)))))))))
  ·intro h17
   replace h17 : j < (xs).length := by omega
   refine yI (K11 yB (yI (K11 yB (yS (.pointer (some ⟨b_m, 0, none⟩)) (fun _ => by kernel_rfl) (K11 yB (yS (.pointer (some ⟨b_m, 0, none⟩)) (fun _ => by kernel_rfl) (K11 yB (K13 (yY b_m 0 v_xs) (fun _ => by kernel_rfl) (zM o_m rfl) (K11 yB (yI (K11 yB ?_)))))))))))
   have hz := yT xs j (by omega); obtain ⟨x18, hx19⟩ := hz
   have hz := (p_xs.rd).at (k := 3) (fun _ => rfl) hx19
   obtain ⟨g20, off21, hl22, hc23⟩ := hz
   have hre := hr.at hx19
   refine K21 (Lq_ixaddr (k := .i64) v_xs j _ g20 off21 xI hl22 (by omega)) (K11 yB (yS (.pointer (some ⟨g20, (off21 + j * 3), none⟩)) (fun _ => by kernel_rfl) (K11 yB (K13 (yY g20 (off21 + j * 3) (.int .i32 x18.1)) (fun _ => by kernel_rfl) (hc23 0 _ rfl) (K11 yB (yS (.pointer (some ⟨b1, 1, none⟩)) (fun _ => by kernel_rfl) (K11 yB (K13 (yY b1 1 (.int .i32 hi)) (fun _ => by kernel_rfl) (zM o_x3 rfl) (K11 yB (K22 (Lq_cmp .i32 x18.1 hi (x18.1 ≤ hi) rfl (cmp_le x18.1 hi)) ?_ ?_))))))))))
   ·intro h24
    replace h24 : x18.1 ≤ hi := by omega
    refine K11 xT (xF ?_)
    intro w25 hB26
    replace hb := hb.trans (hB26.mono hs)
    replace hc := hc.trans2 (Ch.of_below hB26) (fun _ h => h.elim)
    replace hs := Nat.le_trans hs (hB26.size)
    replace o_m := zB o_m hB26
    replace o_x3 := zB o_x3 hB26
    replace p_xs := p_xs.below hB26
    replace r_9 := r_9.below hB26
    refine zA (K11 zS (zV (zA (zF (yP (zF (zD (zI (K21 (zQ (.pointer (some ⟨b_m, 0, none⟩))) (K21 (zQ (.pointer (some ⟨b_m, 0, none⟩))) (K22 (zZ b_m 0 v_xs) (zM o_m rfl) (zI ?_))))))))))))
    have hz := (p_xs.rd).at (k := 3) (fun _ => rfl) hx19
    obtain ⟨g29, off30, hl31, hc32⟩ := hz
    refine K21 (xE (k := .i64) v_xs j _ g29 off30 xI hl31 (by omega)) (K32 (yH g29 (off30 + j * 3) [(.int .i32 x18.1), (.int .i32 x18.2.1), (.int .u8 x18.2.2)]) hc32 (K21 (yW (fun b => .pointer (some ⟨b, 0, none⟩)) (.cells [(.int .i32 0), (.int .i32 0), (.int .u8 0)].toArray 126 (0, 0))) ?_))
    intro b33 w34 hN35
    have g_x10 : B_ ≤ b33 := by rw [hN35.num]; exact hs
    have dk_x10 : (World.heap w).size ≤ b33 ∨ (Dm b_m v_xs) b33 := .inl (by rw [hN35.num]; exact hc.size)
    have nb_o_x10_p_xs := p_xs.new_ne hN35
    have nb_o_x10_r_9 := r_9.new_ne hN35
    replace hb := hb.trans (hN35.below.mono hs)
    replace hc := hc.trans2 (Ch.of_below hN35.below) (fun _ h => h.elim)
    replace hs := Nat.le_trans hs (hN35.below.size)
    replace o_m := zB o_m hN35.below
    replace o_x3 := zB o_x3 hN35.below
    replace p_xs := p_xs.below hN35.below
    replace r_9 := r_9.below hN35.below
    have o_x10 := hN35.here
    refine K26 (yX b33 0 [(.int .i32 x18.1), (.int .i32 x18.2.1), (.int .u8 x18.2.2)] [(.int .i32 0), (.int .i32 0), (.int .u8 0)] [(.int .i32 x18.1), (.int .i32 x18.2.1), (.int .u8 x18.2.2)] 126) rfl (by kernel_rfl) o_x10 (by kernel_rfl) rfl ?_
    intro w36 hW37
    replace hb := hb.trans (hW37.below g_x10)
    replace hc := hc.trans2 (Ch.of_wrote hW37) (fun k e => e ▸ dk_x10)
    replace hs := Nat.le_trans hs (Nat.le_of_eq hW37.size.symm)
    replace o_m := zL o_m hW37 (zT o_m o_x10 (by simp))
    replace o_x3 := zL o_x3 hW37 (zT o_x3 o_x10 (by simp))
    replace p_xs := p_xs.wrote hW37 nb_o_x10_p_xs
    replace r_9 := r_9.wrote hW37 nb_o_x10_r_9
    replace o_x10 := hW37.here
    refine zE (zA (zF (zD (zI (K21 (zQ (.pointer (some ⟨b33, 1, none⟩))) (K22 (zZ b33 1 (.int .i32 x18.2.1)) (zM o_x10 rfl) (K21 (zQ (.pointer (some ⟨b1, 1, none⟩))) (K22 (zZ b1 1 (.int .i32 hi)) (zM o_x3 rfl) (K21 (L_min (k := .i32) x18.2.1 hi) (K21 (zQ (.pointer (some ⟨b33, 0, none⟩))) (K22 (zZ b33 0 (.int .i32 x18.1)) (zM o_x10 rfl) (K21 (zQ (.pointer (some ⟨b1, 0, none⟩))) (K22 (zZ b1 0 (.int .i32 lo)) (zM o_x3 rfl) (K21 (L_max (k := .i32) x18.1 lo) (K22 (xS (min x18.2.1 hi) (max x18.1 lo) ((min x18.2.1 hi) - (max x18.1 lo)) rfl) (wrap_i32 _ (by simp only [arithZ]; omega) (by simp only [arithZ]; omega)) (K12 (L_conv (k := .i32) ((min x18.2.1 hi) - (max x18.1 lo)) ((min x18.2.1 hi) - (max x18.1 lo)) (by kernel_rfl) Tryz.underlying3) (xL _ (by omega) (by omega)) (K22 (xS ((min x18.2.1 hi) - (max x18.1 lo)) 1 (((min x18.2.1 hi) - (max x18.1 lo)) + 1) rfl) (xL _ (by simp only [arithZ]; omega) (by simp only [arithZ]; omega)) (K22 (xS z (((min x18.2.1 hi) - (max x18.1 lo)) + 1) (z + (((min x18.2.1 hi) - (max x18.1 lo)) + 1)) rfl) (xL _ (by simp only [arithZ]; omega) (by simp only [arithZ]; omega)) (zJ (zE (zA (zF (zF (zD (K21 (zQ (.pointer (some ⟨b33, 0, none⟩))) (K22 (zZ b33 0 (.int .i32 x18.1)) (zM o_x10 rfl) (K21 (zQ (.pointer (some ⟨b1, 0, none⟩))) (K22 (zZ b1 0 (.int .i32 lo)) (zM o_x3 rfl) (K22 (yD .i32 x18.1 lo (x18.1 < lo) rfl (cmp_lt x18.1 lo)) ?_ ?_)))))))))))))))))))))))))))))
    ·intro h38
     replace h38 : x18.1 < lo := by omega
     refine zE (zA (K11 zS (zD (zI (K21 (zQ (.pointer (some ⟨b33, 0, none⟩))) (K22 (zZ b33 0 (.int .i32 x18.1)) (zM o_x10 rfl) (K21 (zQ (.pointer (some ⟨b1, 0, none⟩))) (K22 (zZ b1 0 (.int .i32 lo)) (zM o_x3 rfl) (K22 (xS lo 1 (lo - 1) rfl) (wrap_i32 _ (by simp only [arithZ]; omega) (by simp only [arithZ]; omega)) (K21 (zQ (.pointer (some ⟨b33, 2, none⟩))) (K22 (zZ b33 2 (.int .u8 x18.2.2)) (zM o_x10 rfl) (K21 (zQ (Value.agg #[(.int .i32 x18.1), (.int .i32 (lo - 1)), (.int .u8 x18.2.2)])) (K21 (L_app xI B_ v_9 ys (x18.1, (lo - 1), x18.2.2) hs r_9 (by omega) (by kernel_rfl) rfl rfl (by kernel_rfl) rfl) ?_)))))))))))))
     intro v39 w40 hr41 hg42 how43
     have dr2 := dr_app (D := (Dm b_m v_xs)) how43 (by have h0 := hc.size; omega : (World.heap w).size ≤ (World.heap w36).size + 1) dr_r_9
     have nc_o_x10 := ownb_app how43 nb_o_x10_r_9 (yR o_x10)
     have nap_p_xs := ap_app p_xs how43 ap_p_xs_r_9
     replace hb := hb.grown hg42 hs (fun k hk => (World.ownsRow.lt r_9 k hk).1)
     replace hc := hc.trans2 (Ch.of_grown hg42) (fun k e => dr_r_9 k e)
     replace hs := Nat.le_trans hs (hg42.size)
     replace o_m := yF o_m hg42 (r_9.ne o_m (by simp))
     replace o_x3 := yF o_x3 hg42 (r_9.ne o_x3 (by simp))
     replace o_x10 := yF o_x10 hg42 nb_o_x10_r_9
     replace p_xs := p_xs.grown hg42 ap_p_xs_r_9
     have nb_o_x10_r_9 := nc_o_x10
     have ap_p_xs_r_9 := nap_p_xs; have ap_r_9_p_xs := ap_comm nap_p_xs
     replace r_9 := hr41
     have dr_r_9 := dr2; clear dr2
     refine zJ (zE (zA (zF (zD (K21 (zQ (.pointer (some ⟨b33, 1, none⟩))) (K22 (zZ b33 1 (.int .i32 x18.2.1)) (zM o_x10 rfl) (K21 (zQ (.pointer (some ⟨b1, 1, none⟩))) (K22 (zZ b1 1 (.int .i32 hi)) (zM o_x3 rfl) (K22 (yD .i32 x18.2.1 hi (hi < x18.2.1) rfl (cmp_gt x18.2.1 hi)) ?_ ?_)))))))))
     ·intro h44
      replace h44 : hi < x18.2.1 := by omega
      refine zE (zA (K11 zS (zD (zI (K21 (zQ (.pointer (some ⟨b1, 1, none⟩))) (K22 (zZ b1 1 (.int .i32 hi)) (zM o_x3 rfl) (K22 (xS hi 1 (hi + 1) rfl) (wrap_i32 _ (by simp only [arithZ]; omega) (by simp only [arithZ]; omega)) (K21 (zQ (.pointer (some ⟨b33, 1, none⟩))) (K22 (zZ b33 1 (.int .i32 x18.2.1)) (zM o_x10 rfl) (K21 (zQ (.pointer (some ⟨b33, 2, none⟩))) (K22 (zZ b33 2 (.int .u8 x18.2.2)) (zM o_x10 rfl) (K21 (zQ (Value.agg #[(.int .i32 (hi + 1)), (.int .i32 x18.2.1), (.int .u8 x18.2.2)])) (K21 (L_app xI B_ v39 (ys ++ [(x18.1, (lo - 1), x18.2.2)]) ((hi + 1), x18.2.1, x18.2.2) hs r_9 (by (simp only [List.length_append, List.length_cons, List.length_nil] <;> omega)) (by kernel_rfl) rfl rfl (by kernel_rfl) rfl) ?_)))))))))))))
      intro v45 w46 hr47 hg48 how49
      have dr2 := dr_app (D := (Dm b_m v_xs)) how49 (by have h0 := hc.size; omega : (World.heap w).size ≤ (World.heap w40).size + 1) dr_r_9
      have nc_o_x10 := ownb_app how49 nb_o_x10_r_9 (yR o_x10)
      have nap_p_xs := ap_app p_xs how49 ap_p_xs_r_9
      replace hb := hb.grown hg48 hs (fun k hk => (World.ownsRow.lt r_9 k hk).1)
      replace hc := hc.trans2 (Ch.of_grown hg48) (fun k e => dr_r_9 k e)
      replace hs := Nat.le_trans hs (hg48.size)
      replace o_m := yF o_m hg48 (r_9.ne o_m (by simp))
      replace o_x3 := yF o_x3 hg48 (r_9.ne o_x3 (by simp))
      replace p_xs := p_xs.grown hg48 ap_p_xs_r_9
      have nb_o_x10_r_9 := nc_o_x10
      have ap_p_xs_r_9 := nap_p_xs; have ap_r_9_p_xs := ap_comm nap_p_xs
      replace r_9 := hr47
      have dr_r_9 := dr2; clear dr2
      refine zJ (zE (zP (zA (zD (zI (K21 (xD j 1 (by omega)) (zJ (zE ?_))))))))
      refine zA ⟨_, ?_, (j + 1), (z + (((min x18.2.1 hi) - (max x18.1 lo)) + 1)), ((ys ++ [(x18.1, (lo - 1), x18.2.2)]) ++ [((hi + 1), x18.2.1, x18.2.2)]), v45, rfl, hds, by kernel_rfl, by kernel_rfl, by kernel_rfl, by kernel_rfl, by kernel_rfl, by kernel_rfl, by kernel_rfl, by kernel_rfl, p_xs, r_9, o_m, o_x3, ap_p_xs_r_9, hb, hc, dr_r_9, hs, ?_⟩
      ·omega
      ·exact cut_11 hr (by omega) i1 (by assumption) (by omega) (by omega) (by omega) (by omega)
     ·intro h50
      replace h50 : x18.2.1 ≤ hi := by omega
      refine zE (zA (K11 zN (zV (zP (zA (zD (zI (K21 (xD j 1 (by omega)) (zJ (zE ?_))))))))))
      refine zA ⟨_, ?_, (j + 1), (z + (((min x18.2.1 hi) - (max x18.1 lo)) + 1)), (ys ++ [(x18.1, (lo - 1), x18.2.2)]), v39, rfl, hds, by kernel_rfl, by kernel_rfl, by kernel_rfl, by kernel_rfl, by kernel_rfl, by kernel_rfl, by kernel_rfl, by kernel_rfl, p_xs, r_9, o_m, o_x3, ap_p_xs_r_9, hb, hc, dr_r_9, hs, ?_⟩
      ·omega
      ·exact cut_10 hr (by omega) i1 (by assumption) (by omega) (by omega) (by omega) (by omega)
    ·intro h51
     replace h51 : lo ≤ x18.1 := by omega
     refine zE (zA (K11 zN (zV (zA (zF (zD (K21 (zQ (.pointer (some ⟨b33, 1, none⟩))) (K22 (zZ b33 1 (.int .i32 x18.2.1)) (zM o_x10 rfl) (K21 (zQ (.pointer (some ⟨b1, 1, none⟩))) (K22 (zZ b1 1 (.int .i32 hi)) (zM o_x3 rfl) (K22 (yD .i32 x18.2.1 hi (hi < x18.2.1) rfl (cmp_gt x18.2.1 hi)) ?_ ?_)))))))))))
     ·intro h52
      replace h52 : hi < x18.2.1 := by omega
      refine zE (zA (K11 zS (zD (zI (K21 (zQ (.pointer (some ⟨b1, 1, none⟩))) (K22 (zZ b1 1 (.int .i32 hi)) (zM o_x3 rfl) (K22 (xS hi 1 (hi + 1) rfl) (wrap_i32 _ (by simp only [arithZ]; omega) (by simp only [arithZ]; omega)) (K21 (zQ (.pointer (some ⟨b33, 1, none⟩))) (K22 (zZ b33 1 (.int .i32 x18.2.1)) (zM o_x10 rfl) (K21 (zQ (.pointer (some ⟨b33, 2, none⟩))) (K22 (zZ b33 2 (.int .u8 x18.2.2)) (zM o_x10 rfl) (K21 (zQ (Value.agg #[(.int .i32 (hi + 1)), (.int .i32 x18.2.1), (.int .u8 x18.2.2)])) (K21 (L_app xI B_ v_9 ys ((hi + 1), x18.2.1, x18.2.2) hs r_9 (by omega) (by kernel_rfl) rfl rfl (by kernel_rfl) rfl) ?_)))))))))))))
      intro v53 w54 hr55 hg56 how57
      have dr2 := dr_app (D := (Dm b_m v_xs)) how57 (by have h0 := hc.size; omega : (World.heap w).size ≤ (World.heap w36).size + 1) dr_r_9
      have nc_o_x10 := ownb_app how57 nb_o_x10_r_9 (yR o_x10)
      have nap_p_xs := ap_app p_xs how57 ap_p_xs_r_9
      replace hb := hb.grown hg56 hs (fun k hk => (World.ownsRow.lt r_9 k hk).1)
      replace hc := hc.trans2 (Ch.of_grown hg56) (fun k e => dr_r_9 k e)
      replace hs := Nat.le_trans hs (hg56.size)
      replace o_m := yF o_m hg56 (r_9.ne o_m (by simp))
      replace o_x3 := yF o_x3 hg56 (r_9.ne o_x3 (by simp))
      replace p_xs := p_xs.grown hg56 ap_p_xs_r_9
      have nb_o_x10_r_9 := nc_o_x10
      have ap_p_xs_r_9 := nap_p_xs; have ap_r_9_p_xs := ap_comm nap_p_xs
      replace r_9 := hr55
      have dr_r_9 := dr2; clear dr2
      refine zJ (zE (zP (zA (zD (zI (K21 (xD j 1 (by omega)) (zJ (zE ?_))))))))
      refine zA ⟨_, ?_, (j + 1), (z + (((min x18.2.1 hi) - (max x18.1 lo)) + 1)), (ys ++ [((hi + 1), x18.2.1, x18.2.2)]), v53, rfl, hds, by kernel_rfl, by kernel_rfl, by kernel_rfl, by kernel_rfl, by kernel_rfl, by kernel_rfl, by kernel_rfl, by kernel_rfl, p_xs, r_9, o_m, o_x3, ap_p_xs_r_9, hb, hc, dr_r_9, hs, ?_⟩
      ·omega
      ·exact cut_01 hr (by omega) i1 (by assumption) (by omega) (by omega) (by omega) (by omega)
     ·intro h58
      replace h58 : x18.2.1 ≤ hi := by omega
      refine zE (zA (K11 zN (zV (zP (zA (zD (zI (K21 (xD j 1 (by omega)) (zJ (zE ?_))))))))))
      refine zA ⟨_, ?_, (j + 1), (z + (((min x18.2.1 hi) - (max x18.1 lo)) + 1)), ys, v_9, rfl, hds, by kernel_rfl, by kernel_rfl, by kernel_rfl, by kernel_rfl, by kernel_rfl, by kernel_rfl, by kernel_rfl, by kernel_rfl, p_xs, r_9, o_m, o_x3, ap_p_xs_r_9, hb, hc, dr_r_9, hs, ?_⟩
      ·omega
      ·exact cut_00 hr (by omega) i1 (by assumption) (by omega) (by omega) (by omega) (by omega)
   ·intro h59
    replace h59 : hi < x18.1 := by omega
    refine K11 xT (xF ?_)
    intro w60 hB61
    replace hb := hb.trans (hB61.mono hs)
    replace hc := hc.trans2 (Ch.of_below hB61) (fun _ h => h.elim)
    replace hs := Nat.le_trans hs (hB61.size)
    replace o_m := zB o_m hB61
    replace o_x3 := zB o_x3 hB61
    replace p_xs := p_xs.below hB61
    replace r_9 := r_9.below hB61
    refine zA (K11 zN (W_exit (yM (yM (xM (zA (zF (zD (zI (zI (K21 (zQ (.pointer (some ⟨b_m, 0, none⟩))) (K21 (zQ (.pointer (some ⟨b_m, 0, none⟩))) (K22 (zZ b_m 0 v_xs) (zM o_m rfl) (zI (zI (zI (K22 (yA 67 [v_xs, (.int .i64 (((fromG xs lo) : Nat) : Int)), (.int .i64 ((j : Nat) : Int)), v_9]) (c_replace_C B_ v_xs xs (fromG xs lo) j v_9 ys _ hs p_xs r_9.mono0 ap_r_9_p_xs (by omega) (by omega) (by omega) (by omega)) ?_)))))))))))))))))
    rintro q62 w63 ⟨_, rfl, r_q62, dm64, hC65⟩
    have dr_r_q62 := dr_call hc dm64 dr_p_xs
    replace hc := hc.trans2 hC65 (fun k e => dr_p_xs k e)
    replace hb := hC65.below hb hs (fun k e => (World.ownsRow.lt p_xs k e).1)
    replace hs := Nat.le_trans hs hC65.size
    have n_o_m := xP o_m hC65 (p_xs.ne o_m (by simp))
    have n_o_x3 := xP o_x3 hC65 (p_xs.ne o_x3 (by simp))
    have n_r_9 := r_9.ch_row hC65 ap_r_9_p_xs
    replace o_m := n_o_m; clear n_o_m
    refine K21 (zQ (.pointer (some ⟨b_m, 0, none⟩))) (K21 (zQ (.pointer (some ⟨b_m, 0, none⟩))) (K26 (xC b_m 0 q62 [v_xs, (.bool true)] [q62, (.bool true)] 115) r_q62.one (by kernel_rfl) o_m (by simp) rfl ?_))
    intro w66 hW67
    replace hb := hb.trans (hW67.below g_m)
    replace hc := hc.trans2 (Ch.of_wrote hW67) (fun k e => e ▸ dk_m)
    replace hs := Nat.le_trans hs (Nat.le_of_eq hW67.size.symm)
    replace r_q62 := r_q62.wrote hW67 (r_q62.ne o_m (by simp))
    replace o_m := hW67.here
    refine zE (zA (zF (zD (zI (zJ (zJ (zE (zA (zX ?_)))))))))
    refine zO [.tmp 4, .tmp 5] [(.int .i64 z), (.int .i64 0)] rfl hds ⟨by kernel_rfl, by kernel_rfl, trivial⟩ ?_
    have hE : ((z : Int) = (cutN xs lo hi)) ∧ ((0 : Int) = (layE lo hi)) ∧ ((List.take (fromG xs lo) xs ++ ys ++ List.drop j xs) = (cutM xs lo hi)) := ⟨(by (rw [cutN, if_neg (tnf (by assumption))]; first | exact (cutI_end i1 (by omega)).2 | exact (cutI_stop hr (by omega) i1 (by assumption) (by omega)).2)), (by (rw [layE, if_neg (tnf (by assumption))]; done)), (by (rw [cutM, if_neg (tnf (by assumption))]; first | exact (cutI_end i1 (by omega)).1 | exact (cutI_stop hr (by omega) i1 (by assumption) (by omega)).1))⟩
    exact ⟨_, xG (congrArg (Value.int .i64) hE.1) (congrArg (Value.int .i64) hE.2.1), o_m, r_q62.cast hE.2.2, dr_r_q62, hc⟩
  ·intro h68
   replace h68 : (xs).length ≤ j := by omega
   refine yI (K11 zW (K11 zW (K11 zW (K11 zW (K11 zW (K11 zW (K11 zW (K11 zW (K11 zW (K11 zW (K11 zW (K11 Lq_pickF (xF ?_)))))))))))))
   intro w69 hB70
   replace hb := hb.trans (hB70.mono hs)
   replace hc := hc.trans2 (Ch.of_below hB70) (fun _ h => h.elim)
   replace hs := Nat.le_trans hs (hB70.size)
   replace o_m := zB o_m hB70
   replace o_x3 := zB o_x3 hB70
   replace p_xs := p_xs.below hB70
   replace r_9 := r_9.below hB70
   refine zA (K11 zN (W_exit (yM (yM (xM (zA (zF (zD (zI (zI (K21 (zQ (.pointer (some ⟨b_m, 0, none⟩))) (K21 (zQ (.pointer (some ⟨b_m, 0, none⟩))) (K22 (zZ b_m 0 v_xs) (zM o_m rfl) (zI (zI (zI (K22 (yA 67 [v_xs, (.int .i64 (((fromG xs lo) : Nat) : Int)), (.int .i64 ((j : Nat) : Int)), v_9]) (c_replace_C B_ v_xs xs (fromG xs lo) j v_9 ys _ hs p_xs r_9.mono0 ap_r_9_p_xs (by omega) (by omega) (by omega) (by omega)) ?_)))))))))))))))))
   rintro q71 w72 ⟨_, rfl, r_q71, dm73, hC74⟩
   have dr_r_q71 := dr_call hc dm73 dr_p_xs
   replace hc := hc.trans2 hC74 (fun k e => dr_p_xs k e)
   replace hb := hC74.below hb hs (fun k e => (World.ownsRow.lt p_xs k e).1)
   replace hs := Nat.le_trans hs hC74.size
   have n_o_m := xP o_m hC74 (p_xs.ne o_m (by simp))
   have n_o_x3 := xP o_x3 hC74 (p_xs.ne o_x3 (by simp))
   have n_r_9 := r_9.ch_row hC74 ap_r_9_p_xs
   replace o_m := n_o_m; clear n_o_m
   refine K21 (zQ (.pointer (some ⟨b_m, 0, none⟩))) (K21 (zQ (.pointer (some ⟨b_m, 0, none⟩))) (K26 (xC b_m 0 q71 [v_xs, (.bool true)] [q71, (.bool true)] 115) r_q71.one (by kernel_rfl) o_m (by simp) rfl ?_))
   intro w75 hW76
   replace hb := hb.trans (hW76.below g_m)
   replace hc := hc.trans2 (Ch.of_wrote hW76) (fun k e => e ▸ dk_m)
   replace hs := Nat.le_trans hs (Nat.le_of_eq hW76.size.symm)
   replace r_q71 := r_q71.wrote hW76 (r_q71.ne o_m (by simp))
   replace o_m := hW76.here
   refine zE (zA (zF (zD (zI (zJ (zJ (zE (zA (zX ?_)))))))))
   refine zO [.tmp 4, .tmp 5] [(.int .i64 z), (.int .i64 0)] rfl hds ⟨by kernel_rfl, by kernel_rfl, trivial⟩ ?_
   have hE : ((z : Int) = (cutN xs lo hi)) ∧ ((0 : Int) = (layE lo hi)) ∧ ((List.take (fromG xs lo) xs ++ ys ++ List.drop j xs) = (cutM xs lo hi)) := ⟨(by (rw [cutN, if_neg (tnf (by assumption))]; first | exact (cutI_end i1 (by omega)).2 | exact (cutI_stop hr (by omega) i1 (by assumption) (by omega)).2)), (by (rw [layE, if_neg (tnf (by assumption))]; done)), (by (rw [cutM, if_neg (tnf (by assumption))]; first | exact (cutI_end i1 (by omega)).1 | exact (cutI_stop hr (by omega) i1 (by assumption) (by omega)).1))⟩
   exact ⟨_, xG (congrArg (Value.int .i64) hE.1) (congrArg (Value.int .i64) hE.2.1), o_m, r_q71.cast hE.2.2, dr_r_q71, hc⟩
 ·intro h77
  refine K11 (L_not false) (zJ (zE (zA (K11 zS (zF (zD (zJ (zJ (zE (zA (zX (zU (zH ?_)))))))))))))
  refine zO [.tmp 4, .tmp 5] [(.int .i64 0), (.int .i64 41)] rfl rfl ⟨by kernel_rfl, by kernel_rfl, trivial⟩ ?_
  have hE : ((0 : Int) = (cutN xs lo hi)) ∧ ((41 : Int) = (layE lo hi)) ∧ (xs = (cutM xs lo hi)) := ⟨(by (rw [cutN, if_pos (by assumption)]; done)), (by (rw [layE, if_pos (by assumption)]; done)), (by (rw [cutM, if_pos (by assumption)]; done))⟩
  exact ⟨_, xG (congrArg (Value.int .i64) hE.1) (congrArg (Value.int .i64) hE.2.1), o_m, p_xs.cast hE.2.2, dr_p_xs, hc⟩
theorem c_lay_C (b_m : Nat) (v_xs : Value) (xs : List (Int × Int × Int)) (lo : Int) (hi : Int) (val : Int) (B_ : Nat) (w : World) (hs0 : B_ ≤ w.heap.size) (o_m : w.heap[b_m]? = some (.cells [v_xs, (.bool true)].toArray 115 (0, 0))) (g_m : B_ ≤ b_m) (p_xs : Row w B_ 126 3 encSpanC v_xs xs) (hr : RiseG 0 xs) (hlo : -2147483648 ≤ lo ∧ lo ≤ 2147483647) (hhi : -2147483648 ≤ hi ∧ hi ≤ 2147483647) :
  Calls Tryz.prog 34 #[(.pointer (some ⟨b_m, 0, none⟩)), (Value.agg #[(.int .i32 lo), (.int .i32 hi)]), (.int .u8 val)] w (Ret fun v w' => ∃ q0 : Value, v = (.int .i64 (layE lo hi)) ∧ w'.heap[b_m]? = some (.cells [q0, (.bool true)].toArray 115 (0, 0)) ∧ Row w' B_ 126 3 encSpanC q0 (layF eqC xs lo hi val) ∧ (∀ g, Value.ownBlock q0 = some g → w.heap.size ≤ g ∨ (Dm b_m v_xs) g) ∧ Ch (Dm b_m v_xs) w w') := by
 refine K11 (enter (args := [(.pointer (some ⟨b_m, 0, none⟩)), (Value.agg #[(.int .i32 lo), (.int .i32 hi)]), (.int .u8 val)]) Tryz.func34 rfl (by kernel_rfl : _ = 128)) ?_
 have hb := Below.refl B_ w
 have hs : B_ ≤ (World.heap w).size := hs0
 have hc := Ch.refl (Dm b_m v_xs) w
 have dk_m : (World.heap w).size ≤ b_m ∨ (Dm b_m v_xs) b_m := .inr (.inl rfl)
 have dr_p_xs : ∀ g, Value.ownBlock v_xs = some g → (World.heap w).size ≤ g ∨ (Dm b_m v_xs) g := fun g h => .inr (.inr h)
 have hln := hr.len
 have hrc := cutF_rise (lo := lo) (hi := hi) hr
 have hlc := hrc.len
 refine zF (zD (K21 (yW (fun b => .pointer (some ⟨b, 0, none⟩)) (.cells [(.int .i32 lo), (.int .i32 hi)].toArray 32 (0, 0))) ?_))
 intro b1 w2 hN3
 have g_x4 : B_ ≤ b1 := by rw [hN3.num]; exact hs
 have dk_x4 : (World.heap w).size ≤ b1 ∨ (Dm b_m v_xs) b1 := .inl (by rw [hN3.num]; exact hc.size)
 replace hb := hb.trans (hN3.below.mono hs)
 replace hc := hc.trans2 (Ch.of_below hN3.below) (fun _ h => h.elim)
 replace hs := Nat.le_trans hs (hN3.below.size)
 replace o_m := zB o_m hN3.below
 replace p_xs := p_xs.below hN3.below
 have o_x4 := hN3.here
 refine zJ (zE (zA (zF (yP (zF (zD (zI (K22 (yA 63 [(.pointer (some ⟨b_m, 0, none⟩))]) (c_none_C b_m v_xs xs _ o_m p_xs.rd) ?_))))))))
 rintro _ w4 ⟨rfl, hB5⟩
 replace hb := hb.trans (hB5.mono hs)
 replace hc := hc.trans2 (Ch.of_below hB5) (fun _ h => h.elim)
 replace hs := Nat.le_trans hs (hB5.size)
 replace o_m := zB o_m hB5
 replace o_x4 := zB o_x4 hB5
 replace p_xs := p_xs.below hB5
 refine zJ (zE (zA (K11 zN (zF (zD (K32 (yH b1 0 [(.int .i32 lo), (.int .i32 hi)]) (K10 (yN o_x4 0)) (K22 (yA 64 [(Value.agg #[(.int .i32 lo), (.int .i32 hi)])]) (c_points_May lo hi _) ?_)))))))
 rintro _ w7 ⟨rfl, hB8⟩
 replace hb := hb.trans (hB8.mono hs)
 replace hc := hc.trans2 (Ch.of_below hB8) (fun _ h => h.elim)
 replace hs := Nat.le_trans hs (hB8.size)
 replace o_m := zB o_m hB8
 replace o_x4 := zB o_x4 hB8
 replace p_xs := p_xs.below hB8
 refine xK (mayF lo hi) ?_ ?_
 ·intro h10
  have hmb := mayG_b h10
  refine K11 (L_not true) (zJ (zE (zA (K11 zN (zV (zP (zA (zF (zD (zI (K32 (yH b1 0 [(.int .i32 lo), (.int .i32 hi)]) (K10 (yN o_x4 0)) (K22 (yA 65 [(.pointer (some ⟨b_m, 0, none⟩)), (Value.agg #[(.int .i32 lo), (.int .i32 hi)])]) (c_cut_C b_m v_xs xs lo hi B_ _ hs o_m g_m p_xs (by first | exact hr | exact hrc) (by omega) (by omega)) ?_))))))))))))
  rintro _ w12 ⟨q11, rfl, ho15, r_q11, dm13, hC14⟩
  have dr_r_q11 : ∀ g, Value.ownBlock q11 = some g → (World.heap w).size ≤ g ∨ (Dm b_m v_xs) g := fun g hg => (dm13 g hg).elim (fun x => .inl (Nat.le_trans hc.size x)) (fun x => x.elim (fun x => x ▸ dk_m) (fun x => dr_p_xs g x))
  replace hc := hc.trans2 hC14 (fun k e => e.elim (fun x => x ▸ dk_m) (fun x => dr_p_xs k x))
  replace hb := hC14.below hb hs (fun k e => e.elim (fun x => x ▸ g_m) (fun x => (World.ownsRow.lt p_xs k x).1))
  replace hs := Nat.le_trans hs hC14.size
  replace o_x4 := yL o_x4 hC14 (zT o_x4 o_m (by simp)) (p_xs.ne o_x4 (by simp))
  replace o_m := ho15
  refine zE (zA (zF (zD (K21 (zQ (.pointer (some ⟨b1, 0, none⟩))) (K22 (zZ b1 0 (.int .i32 lo)) (zM o_x4 rfl) (K21 (zQ (.pointer (some ⟨b1, 1, none⟩))) (K22 (zZ b1 1 (.int .i32 hi)) (zM o_x4 rfl) (zI (K21 (zQ (Value.agg #[(.int .i32 lo), (.int .i32 hi), (.int .u8 val)])) (K21 (yW (fun b => .pointer (some ⟨b, 0, none⟩)) (.cells [(.int .i32 0), (.int .i32 0), (.int .u8 0)].toArray 126 (0, 0))) ?_))))))))))
  intro b16 w17 hN18
  have g_x7 : B_ ≤ b16 := by rw [hN18.num]; exact hs
  have dk_x7 : (World.heap w).size ≤ b16 ∨ (Dm b_m v_xs) b16 := .inl (by rw [hN18.num]; exact hc.size)
  have nb_o_x7_r_q11 := r_q11.new_ne hN18
  replace hb := hb.trans (hN18.below.mono hs)
  replace hc := hc.trans2 (Ch.of_below hN18.below) (fun _ h => h.elim)
  replace hs := Nat.le_trans hs (hN18.below.size)
  replace o_m := zB o_m hN18.below
  replace o_x4 := zB o_x4 hN18.below
  replace r_q11 := r_q11.below hN18.below
  have o_x7 := hN18.here
  refine K26 (yX b16 0 [(.int .i32 lo), (.int .i32 hi), (.int .u8 val)] [(.int .i32 0), (.int .i32 0), (.int .u8 0)] [(.int .i32 lo), (.int .i32 hi), (.int .u8 val)] 126) rfl (by kernel_rfl) o_x7 (by kernel_rfl) rfl ?_
  intro w19 hW20
  replace hb := hb.trans (hW20.below g_x7)
  replace hc := hc.trans2 (Ch.of_wrote hW20) (fun k e => e ▸ dk_x7)
  replace hs := Nat.le_trans hs (Nat.le_of_eq hW20.size.symm)
  replace o_m := zL o_m hW20 (zT o_m o_x7 (by simp))
  replace o_x4 := zL o_x4 hW20 (zT o_x4 o_x7 (by simp))
  replace r_q11 := r_q11.wrote hW20 nb_o_x7_r_q11
  replace o_x7 := hW20.here
  refine zE (zA (zF (zD (zI (K21 (zQ (.pointer (some ⟨b1, 0, none⟩))) (K22 (zZ b1 0 (.int .i32 lo)) (zM o_x4 rfl) (K22 (yA 66 [(.pointer (some ⟨b_m, 0, none⟩)), (.int .i32 lo)]) (c_from_C b_m q11 (cutM xs lo hi) lo _ o_m r_q11.rd (by first | exact hr | exact hrc) (by omega)) ?_)))))))
  rintro _ w21 ⟨rfl, hB22⟩
  replace hb := hb.trans (hB22.mono hs)
  replace hc := hc.trans2 (Ch.of_below hB22) (fun _ h => h.elim)
  replace hs := Nat.le_trans hs (hB22.size)
  replace o_m := zB o_m hB22
  replace o_x4 := zB o_x4 hB22
  replace o_x7 := zB o_x7 hB22
  replace r_q11 := r_q11.below hB22
  have := fromG_le (cutM xs lo hi) lo
  refine zJ (zE (zA (zF (zD (zI (zJ (zE (zA ?_))))))))
  refine W_cut (fun s0 w0 => ∃ (a : Nat) (p : Int), (s0.ds = []) ∧ (s0.f 0 = (.pointer (some ⟨b_m, 0, none⟩))) ∧ (s0.f 2 = (.int .u8 val)) ∧ (s0.f 6 = (.int .i64 0)) ∧ (s0.f 7 = (.pointer (some ⟨b16, 0, none⟩))) ∧ (s0.f 9 = (.int .i64 (((fromG (cutM xs lo hi) lo) : Nat) : Int))) ∧ (s0.f 8 = (.int .i64 ((a : Nat) : Int))) ∧ (Row w0 B_ 126 3 encSpanC q11 (cutM xs lo hi)) ∧ (w0.heap[b_m]? = some (.cells [q11, (.bool true)].toArray 115 (0, 0))) ∧ (w0.heap[b1]? = some (.cells [(.int .i32 lo), (.int .i32 hi)].toArray 32 (0, 0))) ∧ (w0.heap[b16]? = some (.cells [(.int .i32 p), (.int .i32 hi), (.int .u8 val)].toArray 126 (0, 0))) ∧ (Below B_ w w0) ∧ (Ch (Dm b_m v_xs) w w0) ∧ (B_ ≤ w0.heap.size) ∧ (leftC eqC (cutM xs lo hi) lo val = (a, p)) ∧ (a ≤ fromG (cutM xs lo hi) lo)) ?_ ?_
  ·refine zF (K21 W_quiet (yI (K22 (Lq_cmp .i64 (((fromG (cutM xs lo hi) lo) : Nat) : Int) ((0 : Nat) : Int) (0 < (fromG (cutM xs lo hi) lo)) rfl (cmpN_gt (fromG (cutM xs lo hi) lo) 0)) ?_ ?_)))
   ·intro h24
    replace h24 : 0 < (fromG (cutM xs lo hi) lo) := by omega
    refine yI (K11 yB (yI (K11 yB (yS (.pointer (some ⟨b_m, 0, none⟩)) (fun _ => by kernel_rfl) (K11 yB (yS (.pointer (some ⟨b_m, 0, none⟩)) (fun _ => by kernel_rfl) (K11 yB (K13 (yY b_m 0 q11) (fun _ => by kernel_rfl) (zM o_m rfl) (K11 yB (yI (K11 yB (K21 (Lq_subN (fromG (cutM xs lo hi) lo) 1 (by omega) (by omega)) (K11 yB ?_)))))))))))))
    have hz := yT (cutM xs lo hi) ((fromG (cutM xs lo hi) lo) - 1) (by omega); obtain ⟨x25, hx26⟩ := hz
    have hz := (r_q11.rd).at (k := 3) (fun _ => rfl) hx26
    obtain ⟨g27, off28, hl29, hc30⟩ := hz
    have hre := hrc.at hx26
    refine K21 (Lq_ixaddr (k := .i64) q11 ((fromG (cutM xs lo hi) lo) - 1) _ g27 off28 xI hl29 (by omega)) (K11 yB (yS (.pointer (some ⟨g27, ((off28 + ((fromG (cutM xs lo hi) lo) - 1) * 3) + 1), none⟩)) (fun _ => by kernel_rfl) (K11 yB (K13 (yY g27 ((off28 + ((fromG (cutM xs lo hi) lo) - 1) * 3) + 1) (.int .i32 x25.2.1)) (fun _ => by kernel_rfl) (hc30 1 _ rfl) (K11 yB (K22 (Lq_arith x25.2.1 1 (x25.2.1 + 1) rfl) (wrap_i32 _ (by simp only [arithZ]; omega) (by simp only [arithZ]; omega)) (K11 yB (yS (.pointer (some ⟨b16, 0, none⟩)) (fun _ => by kernel_rfl) (K11 yB (K13 (yY b16 0 (.int .i32 lo)) (fun _ => by kernel_rfl) (zM o_x7 rfl) (K11 yB (K22 (Lq_cmp .i32 (x25.2.1 + 1) lo ((x25.2.1 + 1) = lo) rfl (xB (x25.2.1 + 1) lo)) ?_ ?_))))))))))))
    ·intro h31
     replace h31 : (x25.2.1 + 1) = lo := by omega
     refine K11 xT (yI (K11 yB (yI (K11 yB (yS (.pointer (some ⟨b_m, 0, none⟩)) (fun _ => by kernel_rfl) (K11 yB (yS (.pointer (some ⟨b_m, 0, none⟩)) (fun _ => by kernel_rfl) (K11 yB (K13 (yY b_m 0 q11) (fun _ => by kernel_rfl) (zM o_m rfl) (K11 yB (yI (K11 yB (K21 (Lq_subN (fromG (cutM xs lo hi) lo) 1 (by omega) (by omega)) (K11 yB ?_))))))))))))))
     have hz := (r_q11.rd).at (k := 3) (fun _ => rfl) hx26
     obtain ⟨g34, off35, hl36, hc37⟩ := hz
     refine K21 (Lq_ixaddr (k := .i64) q11 ((fromG (cutM xs lo hi) lo) - 1) _ g34 off35 xI hl36 (by omega)) (K11 yB (yS (.pointer (some ⟨g34, ((off35 + ((fromG (cutM xs lo hi) lo) - 1) * 3) + 2), none⟩)) (fun _ => by kernel_rfl) (K11 yB (K13 (yY g34 ((off35 + ((fromG (cutM xs lo hi) lo) - 1) * 3) + 2) (.int .u8 x25.2.2)) (fun _ => by kernel_rfl) (hc37 2 _ rfl) (K11 yB (yI (K11 yB (K22 (Lq_cmp .u8 x25.2.2 val (x25.2.2 = val) rfl (xB x25.2.2 val)) ?_ ?_))))))))
     ·intro h38
      replace h38 : x25.2.2 = val := by omega
      refine K11 xT (xF ?_)
      intro w39 hB40
      replace hb := hb.trans (hB40.mono hs)
      replace hc := hc.trans2 (Ch.of_below hB40) (fun _ h => h.elim)
      replace hs := Nat.le_trans hs (hB40.size)
      replace o_m := zB o_m hB40
      replace o_x4 := zB o_x4 hB40
      replace o_x7 := zB o_x7 hB40
      replace r_q11 := r_q11.below hB40
      refine zA (K11 zS (zF (zD (zI (K21 (L_subN (fromG (cutM xs lo hi) lo) 1 (by omega) (by omega)) (zJ (zE (zA (zD (zI (K21 (zQ (.pointer (some ⟨b_m, 0, none⟩))) (K21 (zQ (.pointer (some ⟨b_m, 0, none⟩))) (K22 (zZ b_m 0 q11) (zM o_m rfl) (zI ?_))))))))))))))
      have hz := (r_q11.rd).at (k := 3) (fun _ => rfl) hx26
      obtain ⟨g43, off44, hl45, hc46⟩ := hz
      refine K21 (xE (k := .i64) q11 ((fromG (cutM xs lo hi) lo) - 1) _ g43 off44 xI hl45 (by omega)) (K21 (zQ (.pointer (some ⟨g43, (off44 + ((fromG (cutM xs lo hi) lo) - 1) * 3), none⟩))) (K22 (zZ g43 (off44 + ((fromG (cutM xs lo hi) lo) - 1) * 3) (.int .i32 x25.1)) (hc46 0 _ rfl) (K21 (zQ (.pointer (some ⟨b16, 0, none⟩))) (K26 (xC b16 0 (.int .i32 x25.1) [(.int .i32 lo), (.int .i32 hi), (.int .u8 val)] [(.int .i32 x25.1), (.int .i32 hi), (.int .u8 val)] 126) rfl (by kernel_rfl) o_x7 (by simp) rfl ?_))))
      intro w47 hW48
      replace hb := hb.trans (hW48.below g_x7)
      replace hc := hc.trans2 (Ch.of_wrote hW48) (fun k e => e ▸ dk_x7)
      replace hs := Nat.le_trans hs (Nat.le_of_eq hW48.size.symm)
      replace o_m := zL o_m hW48 (zT o_m o_x7 (by simp))
      replace o_x4 := zL o_x4 hW48 (zT o_x4 o_x7 (by simp))
      replace r_q11 := r_q11.wrote hW48 nb_o_x7_r_q11
      replace o_x7 := hW48.here
      refine zE ?_
      refine zA ⟨((fromG (cutM xs lo hi) lo) - 1), x25.1, rfl, by kernel_rfl, by kernel_rfl, by kernel_rfl, by kernel_rfl, by kernel_rfl, by kernel_rfl, r_q11, o_m, o_x4, o_x7, hb, hc, hs, ?_, ?_⟩
      ·exact leftC_yes (by omega) (by assumption) (by omega) (eqC_y (by assumption))
      ·omega
     ·intro h49
      replace h49 : x25.2.2 ≠ val := by omega
      refine K11 xT (xF ?_)
      intro w50 hB51
      replace hb := hb.trans (hB51.mono hs)
      replace hc := hc.trans2 (Ch.of_below hB51) (fun _ h => h.elim)
      replace hs := Nat.le_trans hs (hB51.size)
      replace o_m := zB o_m hB51
      replace o_x4 := zB o_x4 hB51
      replace o_x7 := zB o_x7 hB51
      replace r_q11 := r_q11.below hB51
      refine zA (K11 zN (zV ?_))
      refine zA ⟨(fromG (cutM xs lo hi) lo), lo, rfl, by kernel_rfl, by kernel_rfl, by kernel_rfl, by kernel_rfl, by kernel_rfl, by kernel_rfl, r_q11, o_m, o_x4, o_x7, hb, hc, hs, ?_, ?_⟩
      ·exact leftC_no (by omega) (by assumption) (.inr (eqC_n (by assumption)))
      ·omega
    ·intro h52
     replace h52 : (x25.2.1 + 1) ≠ lo := by omega
     refine K11 xT (yI (K11 zW (K11 zW (K11 zW (K11 zW (K11 zW (K11 zW (K11 zW (K11 zW (K11 zW (K11 zW (K11 zW (K11 Lq_pickF (xF ?_))))))))))))))
     intro w53 hB54
     replace hb := hb.trans (hB54.mono hs)
     replace hc := hc.trans2 (Ch.of_below hB54) (fun _ h => h.elim)
     replace hs := Nat.le_trans hs (hB54.size)
     replace o_m := zB o_m hB54
     replace o_x4 := zB o_x4 hB54
     replace o_x7 := zB o_x7 hB54
     replace r_q11 := r_q11.below hB54
     refine zA (K11 zN (zV ?_))
     refine zA ⟨(fromG (cutM xs lo hi) lo), lo, rfl, by kernel_rfl, by kernel_rfl, by kernel_rfl, by kernel_rfl, by kernel_rfl, by kernel_rfl, r_q11, o_m, o_x4, o_x7, hb, hc, hs, ?_, ?_⟩
     ·exact leftC_no (by omega) (by assumption) (.inl (by omega))
     ·omega
   ·intro h55
    replace h55 : (fromG (cutM xs lo hi) lo) ≤ 0 := by omega
    refine yI (K11 zW (K11 zW (K11 zW (K11 zW (K11 zW (K11 zW (K11 zW (K11 zW (K11 zW (K11 zW (K11 zW (K11 zW (K11 zW (K11 Lq_pickF (yI (K11 zW (K11 zW (K11 zW (K11 zW (K11 zW (K11 zW (K11 zW (K11 zW (K11 zW (K11 zW (K11 zW (K11 Lq_pickF (xF ?_))))))))))))))))))))))))))))
    intro w56 hB57
    replace hb := hb.trans (hB57.mono hs)
    replace hc := hc.trans2 (Ch.of_below hB57) (fun _ h => h.elim)
    replace hs := Nat.le_trans hs (hB57.size)
    replace o_m := zB o_m hB57
    replace o_x4 := zB o_x4 hB57
    replace o_x7 := zB o_x7 hB57
    replace r_q11 := r_q11.below hB57
    refine zA (K11 zN (zV ?_))
    refine zA ⟨(fromG (cutM xs lo hi) lo), lo, rfl, by kernel_rfl, by kernel_rfl, by kernel_rfl, by kernel_rfl, by kernel_rfl, by kernel_rfl, r_q11, o_m, o_x4, o_x7, hb, hc, hs, ?_, ?_⟩
    ·exact leftC_zero (by omega)
    ·omega
  ·rintro s58 w59 ⟨a, p, hds, f_0, f_2, f_6, f_7, f_9, f_8, r_q11, o_m, o_x4, o_x7, hb, hc, hs, jl, ja⟩
   refine yK 0 _ f_0 (yK 2 _ f_2 (yK 6 _ f_6 (yK 7 _ f_7 (yK 9 _ f_9 (yK 8 _ f_8 ?_)))))
   clear f_0 f_2 f_6 f_7 f_9 f_8
   refine W_cut (fun s0 w0 => ∃ (b : Nat) (q : Int), (s0.ds = []) ∧ (s0.f 0 = (.pointer (some ⟨b_m, 0, none⟩))) ∧ (s0.f 6 = (.int .i64 0)) ∧ (s0.f 7 = (.pointer (some ⟨b16, 0, none⟩))) ∧ (s0.f 8 = (.int .i64 ((a : Nat) : Int))) ∧ (s0.f 9 = (.int .i64 ((b : Nat) : Int))) ∧ (Row w0 B_ 126 3 encSpanC q11 (cutM xs lo hi)) ∧ (w0.heap[b_m]? = some (.cells [q11, (.bool true)].toArray 115 (0, 0))) ∧ (w0.heap[b1]? = some (.cells [(.int .i32 lo), (.int .i32 hi)].toArray 32 (0, 0))) ∧ (w0.heap[b16]? = some (.cells [(.int .i32 p), (.int .i32 q), (.int .u8 val)].toArray 126 (0, 0))) ∧ (Below B_ w w0) ∧ (Ch (Dm b_m v_xs) w w0) ∧ (B_ ≤ w0.heap.size) ∧ (rightC eqC (cutM xs lo hi) lo hi val = (b, q)) ∧ (fromG (cutM xs lo hi) lo ≤ b ∧ b ≤ ((cutM xs lo hi)).length)) ?_ ?_
   ·refine zF (K21 W_quiet (yI (yI (yS (.pointer (some ⟨b_m, 0, none⟩)) (fun _ => by kernel_rfl) (yS (.pointer (some ⟨b_m, 0, none⟩)) (fun _ => by kernel_rfl) (K13 (yY b_m 0 q11) (fun _ => by kernel_rfl) (zM o_m rfl) (K11 (Lq_len 113 126 ((cutM xs lo hi)).length q11 rfl Tryz.underlying113 (r_q11.rd).len) (K22 (Lq_cmp .i64 (((fromG (cutM xs lo hi) lo) : Nat) : Int) ((((cutM xs lo hi)).length : Nat) : Int) ((fromG (cutM xs lo hi) lo) < ((cutM xs lo hi)).length) rfl (cmpN_lt (fromG (cutM xs lo hi) lo) (((cutM xs lo hi)).length))) ?_ ?_))))))))
    ·intro h60
     replace h60 : (fromG (cutM xs lo hi) lo) < ((cutM xs lo hi)).length := by omega
     refine yI (K11 yB (yI (K11 yB (yS (.pointer (some ⟨b_m, 0, none⟩)) (fun _ => by kernel_rfl) (K11 yB (yS (.pointer (some ⟨b_m, 0, none⟩)) (fun _ => by kernel_rfl) (K11 yB (K13 (yY b_m 0 q11) (fun _ => by kernel_rfl) (zM o_m rfl) (K11 yB (yI (K11 yB ?_)))))))))))
     have hz := yT (cutM xs lo hi) (fromG (cutM xs lo hi) lo) (by omega); obtain ⟨x61, hx62⟩ := hz
     have hz := (r_q11.rd).at (k := 3) (fun _ => rfl) hx62
     obtain ⟨g63, off64, hl65, hc66⟩ := hz
     have hre := hrc.at hx62
     refine K21 (Lq_ixaddr (k := .i64) q11 (fromG (cutM xs lo hi) lo) _ g63 off64 xI hl65 (by omega)) (K11 yB (yS (.pointer (some ⟨g63, (off64 + (fromG (cutM xs lo hi) lo) * 3), none⟩)) (fun _ => by kernel_rfl) (K11 yB (K13 (yY g63 (off64 + (fromG (cutM xs lo hi) lo) * 3) (.int .i32 x61.1)) (fun _ => by kernel_rfl) (hc66 0 _ rfl) (K11 yB (yS (.pointer (some ⟨b16, 1, none⟩)) (fun _ => by kernel_rfl) (K11 yB (K13 (yY b16 1 (.int .i32 hi)) (fun _ => by kernel_rfl) (zM o_x7 rfl) (K11 yB (K22 (Lq_arith hi 1 (hi + 1) rfl) (wrap_i32 _ (by simp only [arithZ]; omega) (by simp only [arithZ]; omega)) (K11 yB (K22 (Lq_cmp .i32 x61.1 (hi + 1) (x61.1 = (hi + 1)) rfl (xB x61.1 (hi + 1))) ?_ ?_))))))))))))
     ·intro h67
      replace h67 : x61.1 = (hi + 1) := by omega
      refine K11 xT (yI (K11 yB (yI (K11 yB (yS (.pointer (some ⟨b_m, 0, none⟩)) (fun _ => by kernel_rfl) (K11 yB (yS (.pointer (some ⟨b_m, 0, none⟩)) (fun _ => by kernel_rfl) (K11 yB (K13 (yY b_m 0 q11) (fun _ => by kernel_rfl) (zM o_m rfl) (K11 yB (yI (K11 yB ?_))))))))))))
      have hz := (r_q11.rd).at (k := 3) (fun _ => rfl) hx62
      obtain ⟨g70, off71, hl72, hc73⟩ := hz
      refine K21 (Lq_ixaddr (k := .i64) q11 (fromG (cutM xs lo hi) lo) _ g70 off71 xI hl72 (by omega)) (K11 yB (yS (.pointer (some ⟨g70, ((off71 + (fromG (cutM xs lo hi) lo) * 3) + 2), none⟩)) (fun _ => by kernel_rfl) (K11 yB (K13 (yY g70 ((off71 + (fromG (cutM xs lo hi) lo) * 3) + 2) (.int .u8 x61.2.2)) (fun _ => by kernel_rfl) (hc73 2 _ rfl) (K11 yB (yI (K11 yB (K22 (Lq_cmp .u8 x61.2.2 val (x61.2.2 = val) rfl (xB x61.2.2 val)) ?_ ?_))))))))
      ·intro h74
       replace h74 : x61.2.2 = val := by omega
       refine K11 xT (xF ?_)
       intro w75 hB76
       replace hb := hb.trans (hB76.mono hs)
       replace hc := hc.trans2 (Ch.of_below hB76) (fun _ h => h.elim)
       replace hs := Nat.le_trans hs (hB76.size)
       replace o_m := zB o_m hB76
       replace o_x4 := zB o_x4 hB76
       replace o_x7 := zB o_x7 hB76
       replace r_q11 := r_q11.below hB76
       refine zA (K11 zS (zF (zD (zI (K21 (zQ (.pointer (some ⟨b_m, 0, none⟩))) (K21 (zQ (.pointer (some ⟨b_m, 0, none⟩))) (K22 (zZ b_m 0 q11) (zM o_m rfl) (zI ?_))))))))
       have hz := (r_q11.rd).at (k := 3) (fun _ => rfl) hx62
       obtain ⟨g79, off80, hl81, hc82⟩ := hz
       refine K21 (xE (k := .i64) q11 (fromG (cutM xs lo hi) lo) _ g79 off80 xI hl81 (by omega)) (K21 (zQ (.pointer (some ⟨g79, ((off80 + (fromG (cutM xs lo hi) lo) * 3) + 1), none⟩))) (K22 (zZ g79 ((off80 + (fromG (cutM xs lo hi) lo) * 3) + 1) (.int .i32 x61.2.1)) (hc82 1 _ rfl) (K21 (zQ (.pointer (some ⟨b16, 1, none⟩))) (K26 (xC b16 1 (.int .i32 x61.2.1) [(.int .i32 p), (.int .i32 hi), (.int .u8 val)] [(.int .i32 p), (.int .i32 x61.2.1), (.int .u8 val)] 126) rfl (by kernel_rfl) o_x7 (by simp) rfl ?_))))
       intro w83 hW84
       replace hb := hb.trans (hW84.below g_x7)
       replace hc := hc.trans2 (Ch.of_wrote hW84) (fun k e => e ▸ dk_x7)
       replace hs := Nat.le_trans hs (Nat.le_of_eq hW84.size.symm)
       replace o_m := zL o_m hW84 (zT o_m o_x7 (by simp))
       replace o_x4 := zL o_x4 hW84 (zT o_x4 o_x7 (by simp))
       replace r_q11 := r_q11.wrote hW84 nb_o_x7_r_q11
       replace o_x7 := hW84.here
       refine zE (zA (zD (zI (K21 (xD (fromG (cutM xs lo hi) lo) 1 (by omega)) (zJ (zE ?_))))))
       refine zA ⟨((fromG (cutM xs lo hi) lo) + 1), x61.2.1, hds, by kernel_rfl, by kernel_rfl, by kernel_rfl, by kernel_rfl, by kernel_rfl, r_q11, o_m, o_x4, o_x7, hb, hc, hs, ?_, ?_⟩
       ·exact rightC_yes (by assumption) (by omega) (eqC_y (by assumption))
       ·omega
      ·intro h85
       replace h85 : x61.2.2 ≠ val := by omega
       refine K11 xT (xF ?_)
       intro w86 hB87
       replace hb := hb.trans (hB87.mono hs)
       replace hc := hc.trans2 (Ch.of_below hB87) (fun _ h => h.elim)
       replace hs := Nat.le_trans hs (hB87.size)
       replace o_m := zB o_m hB87
       replace o_x4 := zB o_x4 hB87
       replace o_x7 := zB o_x7 hB87
       replace r_q11 := r_q11.below hB87
       refine zA (K11 zN (zV ?_))
       refine zA ⟨(fromG (cutM xs lo hi) lo), hi, hds, by kernel_rfl, by kernel_rfl, by kernel_rfl, by kernel_rfl, by kernel_rfl, r_q11, o_m, o_x4, o_x7, hb, hc, hs, ?_, ?_⟩
       ·exact rightC_no (by assumption) (.inr (eqC_n (by assumption)))
       ·omega
     ·intro h88
      replace h88 : x61.1 ≠ (hi + 1) := by omega
      refine K11 xT (yI (K11 zW (K11 zW (K11 zW (K11 zW (K11 zW (K11 zW (K11 zW (K11 zW (K11 zW (K11 zW (K11 Lq_pickF (xF ?_)))))))))))))
      intro w89 hB90
      replace hb := hb.trans (hB90.mono hs)
      replace hc := hc.trans2 (Ch.of_below hB90) (fun _ h => h.elim)
      replace hs := Nat.le_trans hs (hB90.size)
      replace o_m := zB o_m hB90
      replace o_x4 := zB o_x4 hB90
      replace o_x7 := zB o_x7 hB90
      replace r_q11 := r_q11.below hB90
      refine zA (K11 zN (zV ?_))
      refine zA ⟨(fromG (cutM xs lo hi) lo), hi, hds, by kernel_rfl, by kernel_rfl, by kernel_rfl, by kernel_rfl, by kernel_rfl, r_q11, o_m, o_x4, o_x7, hb, hc, hs, ?_, ?_⟩
      ·exact rightC_no (by assumption) (.inl (by omega))
      ·omega
    ·intro h91
     replace h91 : ((cutM xs lo hi)).length ≤ (fromG (cutM xs lo hi) lo) := by omega
     refine yI (K11 zW (K11 zW (K11 zW (K11 zW (K11 zW (K11 zW (K11 zW (K11 zW (K11 zW (K11 zW (K11 zW (K11 zW (K11 Lq_pickF (yI (K11 zW (K11 zW (K11 zW (K11 zW (K11 zW (K11 zW (K11 zW (K11 zW (K11 zW (K11 zW (K11 Lq_pickF (xF ?_))))))))))))))))))))))))))
     intro w92 hB93
     replace hb := hb.trans (hB93.mono hs)
     replace hc := hc.trans2 (Ch.of_below hB93) (fun _ h => h.elim)
     replace hs := Nat.le_trans hs (hB93.size)
     replace o_m := zB o_m hB93
     replace o_x4 := zB o_x4 hB93
     replace o_x7 := zB o_x7 hB93
     replace r_q11 := r_q11.below hB93
     refine zA (K11 zN (zV ?_))
     refine zA ⟨(fromG (cutM xs lo hi) lo), hi, hds, by kernel_rfl, by kernel_rfl, by kernel_rfl, by kernel_rfl, by kernel_rfl, r_q11, o_m, o_x4, o_x7, hb, hc, hs, ?_, ?_⟩
     ·exact rightC_end (by omega)
     ·omega
   ·rintro s94 w95 ⟨b, q, hds, f_0, f_6, f_7, f_8, f_9, r_q11, o_m, o_x4, o_x7, hb, hc, hs, jr, jb⟩
    refine yK 0 _ f_0 (yK 6 _ f_6 (yK 7 _ f_7 (yK 8 _ f_8 (yK 9 _ f_9 ?_))))
    clear f_0 f_6 f_7 f_8 f_9
    refine zF (K21 (W_held 13) ?_)
    intro w96 hB97
    replace hb := hb.trans (hB97.mono hs)
    replace hc := hc.trans2 (Ch.of_below hB97) (fun _ h => h.elim)
    replace hs := Nat.le_trans hs (hB97.size)
    replace o_m := zB o_m hB97
    replace o_x4 := zB o_x4 hB97
    replace o_x7 := zB o_x7 hB97
    replace r_q11 := r_q11.below hB97
    refine ⟨fun w2 => Ch (Dm b_m q11) w96 w2, ?_⟩
    have hS : Ch (Dm b_m q11) w96 w96 := Ch.refl _ _
    refine K35 (xA 0 (.pointer (some ⟨b_m, 0, none⟩)) rfl) (by repeat first | exact zR | exact zK | apply zC | apply zG) hS (by kernel_rfl) (fun _ _ => by kernel_rfl) ?_
    refine K35 (xA 1 (.pointer (some ⟨b_m, 0, none⟩)) rfl) (by repeat first | exact zR | exact zK | apply zC | apply zG) hS (by kernel_rfl) (fun _ _ => by kernel_rfl) ?_
    refine K35 (xA 2 (.pointer (some ⟨b_m, 0, none⟩)) rfl) (by repeat first | exact zR | exact zK | apply zC | apply zG) hS (by kernel_rfl) (fun _ _ => by kernel_rfl) ?_
    refine K35 (xA 3 (.pointer (some ⟨b_m, 0, none⟩)) rfl) (by repeat first | exact zR | exact zK | apply zC | apply zG) hS (by kernel_rfl) (fun _ _ => by kernel_rfl) ?_
    refine K35 (xA 5 (.int .i64 ((a : Nat) : Int)) rfl) (by repeat first | exact zR | exact zK | apply zC | apply zG) hS (by kernel_rfl) (fun _ _ => by kernel_rfl) ?_
    refine K35 (xA 6 (.int .i64 ((b : Nat) : Int)) rfl) (by repeat first | exact zR | exact zK | apply zC | apply zG) hS (by kernel_rfl) (fun _ _ => by kernel_rfl) ?_
    refine K35 (xA 7 (Value.agg #[(.int .i32 p), (.int .i32 q), (.int .u8 val)]) rfl) (by repeat first | exact zR | exact zK | apply zC | apply zG) hS (by kernel_rfl) (K13 (R_loadA b16 0 [(.int .i32 p), (.int .i32 q), (.int .u8 val)]) (fun _ => by kernel_rfl) (fun _ => by kernel_rfl) (fun w2 h2 => yN (yL o_x7 h2 (zT o_x7 o_m (by simp)) nb_o_x7_r_q11) 0 (by kernel_rfl))) ?_
    refine K12 (H_all2 4 8) ?_ ?_
    ·skip
     refine K12 (H_op 4 rfl) plain_load ?_
     refine K22 (zZ b_m 0 q11) (zM o_m rfl) (zE ?_)
     refine ⟨rfl, hS, ?_⟩
     refine K11 (H_all1 8) ?_
     refine K21 (H_op 8 rfl) ?_
     refine K21 (yW (fun b => .slice (some ⟨b, 0, none⟩) 1 1) (.cells [(.int .i32 p), (.int .i32 q), (.int .u8 val)].toArray 126 (0, 0))) ?_
     intro b98 w99 hN100
     have g_b98 : B_ ≤ b98 := by rw [hN100.num]; exact hs
     have ap_r_q11_r_b98 : Value.ownBlock q11 = none ∨ Value.ownBlock q11 ≠ Value.ownBlock (.slice (some ⟨b98, 0, none⟩) 1 1) := .inr (r_q11.new_ne hN100)
     have ap_r_b98_r_q11 := ap_comm ap_r_q11_r_b98
     have dr_r_b98 : ∀ g, Value.ownBlock (.slice (some ⟨b98, 0, none⟩) 1 1) = some g → (World.heap w).size ≤ g ∨ (Dm b_m v_xs) g := fun g h => .inl (by cases h; rw [hN100.num]; exact hc.size)
     replace hb := hb.trans (hN100.below.mono hs)
     replace hS := hS.trans2 (Ch.of_below hN100.below) (fun _ h => h.elim)
     replace hc := hc.trans2 (Ch.of_below hN100.below) (fun _ h => h.elim)
     replace hs := Nat.le_trans hs (hN100.below.size)
     replace o_m := zB o_m hN100.below
     replace o_x4 := zB o_x4 hN100.below
     replace o_x7 := zB o_x7 hN100.below
     replace r_q11 := r_q11.below hN100.below
     have r_b98 : Row w99 B_ 126 3 encSpanC (.slice (some ⟨b98, 0, none⟩) 1 1) ([(p, q, val)] : List (Int × Int × Int)) := Row.made ([(p, q, val)] : List (Int × Int × Int)) hN100 g_b98 rfl rfl (by first | decide | (simp; done))
     refine zE ?_
     refine ⟨rfl, hS, ?_⟩
     refine K11 (H_all1 9) ?_
     refine K21 (H_op 9 rfl) ?_
     refine K22 (yA 67 [q11, (.int .i64 ((a : Nat) : Int)), (.int .i64 ((b : Nat) : Int)), (.slice (some ⟨b98, 0, none⟩) 1 1)]) (c_replace_C B_ q11 (cutM xs lo hi) a b (.slice (some ⟨b98, 0, none⟩) 1 1) ([(p, q, val)] : List (Int × Int × Int)) _ hs r_q11 r_b98.mono0 ap_r_b98_r_q11 (by omega) (by omega) (by omega) (by first | omega | simp)) ?_
     rintro q101 w102 ⟨_, rfl, r_q101, dm103, hC104⟩
     have dr_r_q101 := dr_call hc dm103 dr_r_q11
     replace hc := hc.trans2 hC104 (fun k e => dr_r_q11 k e)
     replace hb := hC104.below hb hs (fun k e => (World.ownsRow.lt r_q11 k e).1)
     replace hs := Nat.le_trans hs hC104.size
     replace hS := hS.trans2 hC104 (fun k e => .inr (.inr e))
     have n_o_m := xP o_m hC104 (r_q11.ne o_m (by simp))
     have n_o_x4 := xP o_x4 hC104 (r_q11.ne o_x4 (by simp))
     have nb_o_x7_r_q101 := nb_mutrow o_x7 dm103 nb_o_x7_r_q11
     have n_o_x7 := xP o_x7 hC104 nb_o_x7_r_q11
     have n_r_b98 := r_b98.ch_row hC104 ap_r_b98_r_q11
     replace o_m := n_o_m; clear n_o_m
     refine zE ?_
     refine ⟨rfl, hS, ?_⟩
     refine K35 (xA 10 (.pointer (some ⟨b_m, 0, none⟩)) rfl) (by repeat first | exact zR | exact zK | apply zC | apply zG) hS (by kernel_rfl) (fun _ _ => by kernel_rfl) ?_
     refine K35 (xA 11 (.pointer (some ⟨b_m, 0, none⟩)) rfl) (by repeat first | exact zR | exact zK | apply zC | apply zG) hS (by kernel_rfl) (fun _ _ => by kernel_rfl) ?_
     refine K11 (H_all1 12) ?_
     refine K12 (H_op 12 rfl) plain_store ?_
     refine K26 (xC b_m 0 q101 [q11, (.bool true)] [q101, (.bool true)] 115) r_q101.one (by kernel_rfl) o_m (by simp) rfl ?_
     intro w105 hW106
     replace hb := hb.trans (hW106.below g_m)
     replace hS := hS.trans2 (Ch.of_wrote hW106) (fun k e => .inr (.inl e))
     replace hc := hc.trans2 (Ch.of_wrote hW106) (fun k e => e ▸ dk_m)
     replace hs := Nat.le_trans hs (Nat.le_of_eq hW106.size.symm)
     replace r_q101 := r_q101.wrote hW106 (r_q101.ne o_m (by simp))
     replace o_m := hW106.here
     refine zE ?_
     refine ⟨rfl, hS, ?_⟩
     refine K11 H_done ?_
     refine zA (zF (zD (zJ (zE (zA (zX ?_))))))
     refine zO [.tmp 6] [(.int .i64 0)] rfl hds ⟨by kernel_rfl, trivial⟩ ?_
     have hE : ((0 : Int) = (layE lo hi)) ∧ ((List.take a (cutM xs lo hi) ++ ([(p, q, val)] : List (Int × Int × Int)) ++ List.drop b (cutM xs lo hi)) = (layF eqC xs lo hi val)) := ⟨(by (rw [layE, if_neg (tnf (by assumption))]; done)), (by (rw [layF, if_neg (tnf (by assumption)), layG, show cutG lo hi xs = cutM xs lo hi from (by rw [cutM, if_neg (tnf (by assumption))])]; exact layC_mk jl jr))⟩
     exact ⟨_, congrArg (Value.int .i64) hE.1, o_m, r_q101.cast hE.2, dr_r_q101, hc⟩
    ·skip
     refine K21 (H_op 8 rfl) ?_
     refine K21 (yW (fun b => .slice (some ⟨b, 0, none⟩) 1 1) (.cells [(.int .i32 p), (.int .i32 q), (.int .u8 val)].toArray 126 (0, 0))) ?_
     intro b107 w108 hN109
     have g_b107 : B_ ≤ b107 := by rw [hN109.num]; exact hs
     have ap_r_q11_r_b107 : Value.ownBlock q11 = none ∨ Value.ownBlock q11 ≠ Value.ownBlock (.slice (some ⟨b107, 0, none⟩) 1 1) := .inr (r_q11.new_ne hN109)
     have ap_r_b107_r_q11 := ap_comm ap_r_q11_r_b107
     have dr_r_b107 : ∀ g, Value.ownBlock (.slice (some ⟨b107, 0, none⟩) 1 1) = some g → (World.heap w).size ≤ g ∨ (Dm b_m v_xs) g := fun g h => .inl (by cases h; rw [hN109.num]; exact hc.size)
     replace hb := hb.trans (hN109.below.mono hs)
     replace hS := hS.trans2 (Ch.of_below hN109.below) (fun _ h => h.elim)
     replace hc := hc.trans2 (Ch.of_below hN109.below) (fun _ h => h.elim)
     replace hs := Nat.le_trans hs (hN109.below.size)
     replace o_m := zB o_m hN109.below
     replace o_x4 := zB o_x4 hN109.below
     replace o_x7 := zB o_x7 hN109.below
     replace r_q11 := r_q11.below hN109.below
     have r_b107 : Row w108 B_ 126 3 encSpanC (.slice (some ⟨b107, 0, none⟩) 1 1) ([(p, q, val)] : List (Int × Int × Int)) := Row.made ([(p, q, val)] : List (Int × Int × Int)) hN109 g_b107 rfl rfl (by first | decide | (simp; done))
     refine zE ?_
     refine ⟨rfl, hS, ?_⟩
     refine K11 (H_all1 4) ?_
     refine K12 (H_op 4 rfl) plain_load ?_
     refine K22 (zZ b_m 0 q11) (zM o_m rfl) (zE ?_)
     refine ⟨rfl, hS, ?_⟩
     refine K11 (H_all1 9) ?_
     refine K21 (H_op 9 rfl) ?_
     refine K22 (yA 67 [q11, (.int .i64 ((a : Nat) : Int)), (.int .i64 ((b : Nat) : Int)), (.slice (some ⟨b107, 0, none⟩) 1 1)]) (c_replace_C B_ q11 (cutM xs lo hi) a b (.slice (some ⟨b107, 0, none⟩) 1 1) ([(p, q, val)] : List (Int × Int × Int)) _ hs r_q11 r_b107.mono0 ap_r_b107_r_q11 (by omega) (by omega) (by omega) (by first | omega | simp)) ?_
     rintro q110 w111 ⟨_, rfl, r_q110, dm112, hC113⟩
     have dr_r_q110 := dr_call hc dm112 dr_r_q11
     replace hc := hc.trans2 hC113 (fun k e => dr_r_q11 k e)
     replace hb := hC113.below hb hs (fun k e => (World.ownsRow.lt r_q11 k e).1)
     replace hs := Nat.le_trans hs hC113.size
     replace hS := hS.trans2 hC113 (fun k e => .inr (.inr e))
     have n_o_m := xP o_m hC113 (r_q11.ne o_m (by simp))
     have n_o_x4 := xP o_x4 hC113 (r_q11.ne o_x4 (by simp))
     have nb_o_x7_r_q110 := nb_mutrow o_x7 dm112 nb_o_x7_r_q11
     have n_o_x7 := xP o_x7 hC113 nb_o_x7_r_q11
     have n_r_b107 := r_b107.ch_row hC113 ap_r_b107_r_q11
     replace o_m := n_o_m; clear n_o_m
     refine zE ?_
     refine ⟨rfl, hS, ?_⟩
     refine K35 (xA 10 (.pointer (some ⟨b_m, 0, none⟩)) rfl) (by repeat first | exact zR | exact zK | apply zC | apply zG) hS (by kernel_rfl) (fun _ _ => by kernel_rfl) ?_
     refine K35 (xA 11 (.pointer (some ⟨b_m, 0, none⟩)) rfl) (by repeat first | exact zR | exact zK | apply zC | apply zG) hS (by kernel_rfl) (fun _ _ => by kernel_rfl) ?_
     refine K11 (H_all1 12) ?_
     refine K12 (H_op 12 rfl) plain_store ?_
     refine K26 (xC b_m 0 q110 [q11, (.bool true)] [q110, (.bool true)] 115) r_q110.one (by kernel_rfl) o_m (by simp) rfl ?_
     intro w114 hW115
     replace hb := hb.trans (hW115.below g_m)
     replace hS := hS.trans2 (Ch.of_wrote hW115) (fun k e => .inr (.inl e))
     replace hc := hc.trans2 (Ch.of_wrote hW115) (fun k e => e ▸ dk_m)
     replace hs := Nat.le_trans hs (Nat.le_of_eq hW115.size.symm)
     replace r_q110 := r_q110.wrote hW115 (r_q110.ne o_m (by simp))
     replace o_m := hW115.here
     refine zE ?_
     refine ⟨rfl, hS, ?_⟩
     refine K11 H_done ?_
     refine zA (zF (zD (zJ (zE (zA (zX ?_))))))
     refine zO [.tmp 6] [(.int .i64 0)] rfl hds ⟨by kernel_rfl, trivial⟩ ?_
     have hE : ((0 : Int) = (layE lo hi)) ∧ ((List.take a (cutM xs lo hi) ++ ([(p, q, val)] : List (Int × Int × Int)) ++ List.drop b (cutM xs lo hi)) = (layF eqC xs lo hi val)) := ⟨(by (rw [layE, if_neg (tnf (by assumption))]; done)), (by (rw [layF, if_neg (tnf (by assumption)), layG, show cutG lo hi xs = cutM xs lo hi from (by rw [cutM, if_neg (tnf (by assumption))])]; exact layC_mk jl jr))⟩
     exact ⟨_, congrArg (Value.int .i64) hE.1, o_m, r_q110.cast hE.2, dr_r_q110, hc⟩
 ·intro h116
  refine K11 (L_not false) (zJ (zE (zA (K11 zS (zF (zD (zJ (zE (zA (zX (zU (zH ?_))))))))))))
  refine zO [.tmp 6] [(.int .i64 41)] rfl rfl ⟨by kernel_rfl, trivial⟩ ?_
  have hE : ((41 : Int) = (layE lo hi)) ∧ (xs = (layF eqC xs lo hi val)) := ⟨(by (rw [layE, if_pos (by assumption)]; done)), (by (rw [layF, if_pos (by assumption)]; done))⟩
  exact ⟨_, congrArg (Value.int .i64) hE.1, o_m, p_xs.cast hE.2, dr_p_xs, hc⟩
theorem c_put_C (b_m : Nat) (v_xs : Value) (xs : List (Int × Int × Int)) (lo : Int) (hi : Int) (val : Int) (B_ : Nat) (w : World) (hs0 : B_ ≤ w.heap.size) (o_m : w.heap[b_m]? = some (.cells [v_xs, (.bool true)].toArray 115 (0, 0))) (g_m : B_ ≤ b_m) (p_xs : Row w B_ 126 3 encSpanC v_xs xs) (hr : RiseG 0 xs) (hlo : -2147483648 ≤ lo ∧ lo ≤ 2147483647) (hhi : -2147483648 ≤ hi ∧ hi ≤ 2147483647) :
  Calls Tryz.prog 62 #[(.pointer (some ⟨b_m, 0, none⟩)), (Value.agg #[(.int .i32 lo), (.int .i32 hi)]), (.int .u8 val)] w (Ret fun v w' => ∃ q0 : Value, v = (.int .i64 (putE xs lo hi)) ∧ w'.heap[b_m]? = some (.cells [q0, (.bool true)].toArray 115 (0, 0)) ∧ Row w' B_ 126 3 encSpanC q0 (putF eqC xs lo hi val) ∧ (∀ g, Value.ownBlock q0 = some g → w.heap.size ≤ g ∨ (Dm b_m v_xs) g) ∧ Ch (Dm b_m v_xs) w w') := by
 refine K11 (enter (args := [(.pointer (some ⟨b_m, 0, none⟩)), (Value.agg #[(.int .i32 lo), (.int .i32 hi)]), (.int .u8 val)]) Tryz.func62 rfl (by kernel_rfl : _ = 29)) ?_
 have hb := Below.refl B_ w
 have hs : B_ ≤ (World.heap w).size := hs0
 have hc := Ch.refl (Dm b_m v_xs) w
 have dk_m : (World.heap w).size ≤ b_m ∨ (Dm b_m v_xs) b_m := .inr (.inl rfl)
 have dr_p_xs : ∀ g, Value.ownBlock v_xs = some g → (World.heap w).size ≤ g ∨ (Dm b_m v_xs) g := fun g h => .inr (.inr h)
 have hln := hr.len
 refine zF (zD (K21 (yW (fun b => .pointer (some ⟨b, 0, none⟩)) (.cells [(.int .i32 lo), (.int .i32 hi)].toArray 32 (0, 0))) ?_))
 intro b1 w2 hN3
 have g_x4 : B_ ≤ b1 := by rw [hN3.num]; exact hs
 have dk_x4 : (World.heap w).size ≤ b1 ∨ (Dm b_m v_xs) b1 := .inl (by rw [hN3.num]; exact hc.size)
 replace hb := hb.trans (hN3.below.mono hs)
 replace hc := hc.trans2 (Ch.of_below hN3.below) (fun _ h => h.elim)
 replace hs := Nat.le_trans hs (hN3.below.size)
 replace o_m := zB o_m hN3.below
 replace p_xs := p_xs.below hN3.below
 have o_x4 := hN3.here
 refine zJ (zE (zA (zF (yP (zF (zD (zI (K22 (yA 63 [(.pointer (some ⟨b_m, 0, none⟩))]) (c_none_C b_m v_xs xs _ o_m p_xs.rd) ?_))))))))
 rintro _ w4 ⟨rfl, hB5⟩
 replace hb := hb.trans (hB5.mono hs)
 replace hc := hc.trans2 (Ch.of_below hB5) (fun _ h => h.elim)
 replace hs := Nat.le_trans hs (hB5.size)
 replace o_m := zB o_m hB5
 replace o_x4 := zB o_x4 hB5
 replace p_xs := p_xs.below hB5
 refine zJ (zE (zA (K11 zN (zF (zD (K32 (yH b1 0 [(.int .i32 lo), (.int .i32 hi)]) (K10 (yN o_x4 0)) (K22 (yA 64 [(Value.agg #[(.int .i32 lo), (.int .i32 hi)])]) (c_points_May lo hi _) ?_)))))))
 rintro _ w7 ⟨rfl, hB8⟩
 replace hb := hb.trans (hB8.mono hs)
 replace hc := hc.trans2 (Ch.of_below hB8) (fun _ h => h.elim)
 replace hs := Nat.le_trans hs (hB8.size)
 replace o_m := zB o_m hB8
 replace o_x4 := zB o_x4 hB8
 replace p_xs := p_xs.below hB8
 refine xK (mayF lo hi) ?_ ?_
 ·intro h10
  have hmb := mayG_b h10
  refine K11 (L_not true) (zJ (zE (zA (K11 zN (zV (zP (zA (zF (zF (zD (zI (K32 (yH b1 0 [(.int .i32 lo), (.int .i32 hi)]) (K10 (yN o_x4 0)) (K22 (yA 103 [(.pointer (some ⟨b_m, 0, none⟩)), (Value.agg #[(.int .i32 lo), (.int .i32 hi)])]) (c_meets_C b_m v_xs xs lo hi _ o_m p_xs.rd (by exact hr) (by omega)) ?_)))))))))))))
  rintro _ w11 ⟨rfl, hB12⟩
  replace hb := hb.trans (hB12.mono hs)
  replace hc := hc.trans2 (Ch.of_below hB12) (fun _ h => h.elim)
  replace hs := Nat.le_trans hs (hB12.size)
  replace o_m := zB o_m hB12
  replace o_x4 := zB o_x4 hB12
  replace p_xs := p_xs.below hB12
  refine zI (K21 (zQ (Value.agg #[(.int .i32 ((metV 0 (metG xs lo hi)).1)), (.int .i32 ((metV 0 (metG xs lo hi)).2.1))])) (K21 (zQ (.int .u8 ((metV 0 (metG xs lo hi)).2.2.1))) (K21 (zQ (.bool ((metV 0 (metG xs lo hi)).2.2.2))) (K21 (yW (fun b => .pointer (some ⟨b, 0, none⟩)) (.cells [(.int .i32 0), (.int .i32 0)].toArray 32 (0, 0))) ?_))))
  intro b14 w15 hN16
  have ne_x4_x7 : NE b1 b14 := by have := (yR o_x4); have := hN16.num; show _ ≠ _; omega
  have g_x7 : B_ ≤ b14 := by rw [hN16.num]; exact hs
  have dk_x7 : (World.heap w).size ≤ b14 ∨ (Dm b_m v_xs) b14 := .inl (by rw [hN16.num]; exact hc.size)
  replace hb := hb.trans (hN16.below.mono hs)
  replace hc := hc.trans2 (Ch.of_below hN16.below) (fun _ h => h.elim)
  replace hs := Nat.le_trans hs (hN16.below.size)
  replace o_m := zB o_m hN16.below
  replace o_x4 := zB o_x4 hN16.below
  replace p_xs := p_xs.below hN16.below
  have o_x7 := hN16.here
  refine K26 (yX b14 0 [(.int .i32 ((metV 0 (metG xs lo hi)).1)), (.int .i32 ((metV 0 (metG xs lo hi)).2.1))] [(.int .i32 0), (.int .i32 0)] [(.int .i32 ((metV 0 (metG xs lo hi)).1)), (.int .i32 ((metV 0 (metG xs lo hi)).2.1))] 32) rfl (by kernel_rfl) o_x7 (by kernel_rfl) rfl ?_
  intro w17 hW18
  replace hb := hb.trans (hW18.below g_x7)
  replace hc := hc.trans2 (Ch.of_wrote hW18) (fun k e => e ▸ dk_x7)
  replace hs := Nat.le_trans hs (Nat.le_of_eq hW18.size.symm)
  replace o_m := zL o_m hW18 (zT o_m o_x7 (by simp))
  replace o_x4 := zL o_x4 hW18 ne_x4_x7
  replace p_xs := p_xs.wrote hW18 (p_xs.ne o_x7 (by simp))
  refine zJ (zJ (zE (zA (zF (zD (zI (zE (zA ?_))))))))
  rcases Bool.eq_false_or_eq_true ((metV 0 (metG xs lo hi)).2.2.2) with hc19 | hc19
  ·skip
   refine K11 (W_ifT hc19) (zF (zD (zJ (zE (zA (zX (zH ?_)))))))
   refine zO [.tmp 6] [(.int .i64 42)] rfl rfl ⟨by kernel_rfl, trivial⟩ ?_
   have hE : ((42 : Int) = (putE xs lo hi)) ∧ (xs = (putF eqC xs lo hi val)) := ⟨(by exact (put_metG (eq := eqC) (v := val) (z := 0) (by assumption) (by assumption)).1), (by exact (put_metG (z := 0) (by assumption) (by assumption)).2)⟩
   exact ⟨_, congrArg (Value.int .i64) hE.1, o_m, p_xs.cast hE.2, dr_p_xs, hc⟩
  ·skip
   refine K11 (W_ifF hc19) (zV (zA (zF (zD (zI (K32 (yH b1 0 [(.int .i32 lo), (.int .i32 hi)]) (K10 (yN o_x4 0)) (zI (K22 (yA 34 [(.pointer (some ⟨b_m, 0, none⟩)), (Value.agg #[(.int .i32 lo), (.int .i32 hi)]), (.int .u8 val)]) (c_lay_C b_m v_xs xs lo hi val B_ _ hs o_m g_m p_xs (by exact hr) (by omega) (by omega)) ?_))))))))
   rintro _ w21 ⟨q20, rfl, ho24, r_q20, dm22, hC23⟩
   have dr_r_q20 : ∀ g, Value.ownBlock q20 = some g → (World.heap w).size ≤ g ∨ (Dm b_m v_xs) g := fun g hg => (dm22 g hg).elim (fun x => .inl (Nat.le_trans hc.size x)) (fun x => x.elim (fun x => x ▸ dk_m) (fun x => dr_p_xs g x))
   replace hc := hc.trans2 hC23 (fun k e => e.elim (fun x => x ▸ dk_m) (fun x => dr_p_xs k x))
   replace hb := hC23.below hb hs (fun k e => e.elim (fun x => x ▸ g_m) (fun x => (World.ownsRow.lt p_xs k x).1))
   replace hs := Nat.le_trans hs hC23.size
   replace o_m := ho24
   refine zJ (zE (zA (zX ?_)))
   refine zO [.tmp 6] [(.int .i64 (layE lo hi))] rfl rfl ⟨by kernel_rfl, trivial⟩ ?_
   have hE : (((layE lo hi) : Int) = (putE xs lo hi)) ∧ ((layF eqC xs lo hi val) = (putF eqC xs lo hi val)) := ⟨(by exact (put_okG (eq := eqC) (v := val) (z := 0) (by assumption) (by assumption)).1), (by exact (put_okG (z := 0) (by assumption) (by assumption)).2)⟩
   exact ⟨_, congrArg (Value.int .i64) hE.1, o_m, r_q20.cast hE.2, dr_r_q20, hc⟩
 ·intro h25
  refine K11 (L_not false) (zJ (zE (zA (K11 zS (zF (zD (zJ (zE (zA (zX (zU (zH ?_))))))))))))
  refine zO [.tmp 6] [(.int .i64 41)] rfl rfl ⟨by kernel_rfl, trivial⟩ ?_
  have hE : ((41 : Int) = (putE xs lo hi)) ∧ (xs = (putF eqC xs lo hi val)) := ⟨(by exact (put_badG (eq := eqC) (v := val) (by assumption)).1), (by exact (put_badG (by assumption)).2)⟩
  exact ⟨_, congrArg (Value.int .i64) hE.1, o_m, p_xs.cast hE.2, dr_p_xs, hc⟩
theorem c_clone_C (v_s : Value) (s : List (Int × Int × Int)) (w : World) (p_s : Rd w encSpanC v_s s) (hl : s.length ≤ 4194304) :
  Calls Tryz.prog 69 #[v_s] w (Ret fun v w' => ∃ (q0 : Value), v = q0 ∧ Row w' w.heap.size 126 3 encSpanC q0 s ∧ Below w.heap.size w w') := by
 refine K11 (enter (args := [v_s]) Tryz.func69 rfl (by kernel_rfl : _ = 8)) ?_
 have hb := Below.refl w.heap.size w
 have hs : w.heap.size ≤ w.heap.size := Nat.le_refl _
 refine zF (zD (zJ (zE (zA (zF (zF (zD (zI (K24 (L_snil v_s s p_s) (fun _ _ _ => by kernel_rfl) (fun _ _ _ _ => by kernel_rfl) ?_ ?_)))))))))
 ·intro h1
  refine zE (zA (K11 zS (zF (zD (zJ (zE (zA (zX (zH ?_)))))))))
  refine zO [.tmp 2] [(.slice none 0 0)] rfl rfl ⟨by kernel_rfl, trivial⟩ ?_
  have e51 : ([] : List (Int × Int × Int)) = s := by (subst s; rfl)
  exact ⟨(.slice none 0 0), rfl, (Row.nil _ _ _ _ _).cast e51, hb⟩
 ·refine zE (zA (K11 zN (zV (zA (zF (zD (K21 (yW (fun b => .slice (some ⟨b, 0, none⟩) 0 0) (.cells [].toArray 126 (0, 0))) ?_)))))))
  intro b2 w3 hN4
  have g_b2 : w.heap.size ≤ b2 := by rw [hN4.num]; exact hs
  replace hb := hb.trans (hN4.below.mono hs)
  replace hs := Nat.le_trans hs (hN4.below.size)
  replace p_s := p_s.below hN4.below
  have r_b2 : Row w3 w.heap.size 126 3 encSpanC (.slice (some ⟨b2, 0, none⟩) 0 0) ([] : List (Int × Int × Int)) := Row.made ([] : List (Int × Int × Int)) hN4 g_b2 rfl rfl (by first | decide | (simp; done))
  refine zI (K31 (L_appAll xI w.heap.size (.slice (some ⟨b2, 0, none⟩) 0 0) v_s ([] : List (Int × Int × Int)) s hs r_b2 p_s (by (simp only [List.length_append, List.length_nil] <;> omega)) (fun _ => rfl) (fun _ => rfl)) ?_)
  intro v5 w6 hr7 hg8 how9 
  replace hb := hb.grown hg8 hs (fun k hk => (World.ownsRow.lt r_b2 k hk).1)
  replace hs := Nat.le_trans hs (hg8.size)
  replace r_b2 := hr7
  refine zJ (zE (zA (zX ?_)))
  refine zO [.tmp 2] [v5] rfl rfl ⟨by kernel_rfl, trivial⟩ ?_
  have e51 : (([] : List (Int × Int × Int)) ++ s) = s := by rfl
  exact ⟨v5, rfl, r_b2.cast e51, hb⟩
theorem it_all_C (bx_m b_m : Nat) (v_xs : Value) (xs : List (Int × Int × Int)) (hl : xs.length ≤ 4194304) :
  Iter (α := SpI) Tryz.prog 68 [.pointer (some ⟨bx_m, 0, none⟩)] (fun x => [.agg #[.int .i32 x.1, .int .i32 x.2.1], .int .u8 x.2.2]) xs (fun w => w.heap[bx_m]? = some (.cells [(.pointer (some ⟨b_m, 0, none⟩))].toArray 61 (0, 0)) ∧ w.heap[b_m]? = some (.cells [v_xs, (.bool true)].toArray 115 (0, 0)) ∧ Rd w encSpanC v_xs xs) := by
 intro l J Jx w hN h0 hJs hJxs hY
 refine K11 (enter (args := [(.func (.yield l) #[] #[]), (.pointer (some ⟨bx_m, 0, none⟩))]) Tryz.func68 rfl (by kernel_rfl : _ = 28)) ?_
 have hb := Below.refl w.heap.size w
 have hs : w.heap.size ≤ w.heap.size := Nat.le_refl _
 obtain ⟨o_capm, o_capmm, p_xs⟩ := hN
 have in_p_xs := p_xs
 refine zF (zF (zD (K22 (zZ bx_m 0 (.pointer (some ⟨b_m, 0, none⟩))) (zM o_capm rfl) (K22 (yA 63 [(.pointer (some ⟨b_m, 0, none⟩))]) (c_none_C b_m v_xs xs _ o_capmm p_xs) ?_))))
 rintro _ w1 ⟨rfl, hB2⟩
 replace hb := hb.trans (hB2.mono hs)
 replace hs := Nat.le_trans hs (hB2.size)
 replace o_capm := zB o_capm hB2
 replace o_capmm := zB o_capmm hB2
 replace p_xs := p_xs.below hB2
 refine zE (zA (K11 zN (zV (zA (zF (zD (K22 (zZ bx_m 0 (.pointer (some ⟨b_m, 0, none⟩))) (zM o_capm rfl) (K21 (zQ (.pointer (some ⟨b_m, 0, none⟩))) (K21 (zQ (.pointer (some ⟨b_m, 0, none⟩))) (K22 (zZ b_m 0 v_xs) (zM o_capmm rfl) (K22 (yA 69 [v_xs]) (c_clone_C v_xs xs _ p_xs (by omega)) ?_)))))))))))
 rintro q4 w5 ⟨_, rfl, r_q4, hB6⟩
 replace r_q4 := r_q4.base hs
 replace hb := hb.trans (hB6.mono hs)
 replace hs := Nat.le_trans hs (hB6.size)
 replace o_capm := zB o_capm hB6
 replace o_capmm := zB o_capmm hB6
 replace p_xs := p_xs.below hB6
 refine K11 (L_len 113 126 (xs).length q4 rfl Tryz.underlying113 (r_q4.rd).len) (zI (zE (zA (yP ?_))))
 have hJ := h0 _ hb
 obtain ⟨K, hKe⟩ : ∃ K, K = w5.heap.size := ⟨_, rfl⟩
 rw [← hKe] at hJ
 have hK : K ≤ w5.heap.size := by omega
 have hK0 : w.heap.size ≤ K := by omega
 have ivr_r_q4 : ∀ g, Value.ownBlock q4 = some g → Iv w.heap.size K g := fun g hg => by have := World.ownsRow.lt r_q4 g hg; exact ⟨this.1, by omega⟩
 refine W_loop (fun m s0 w0 => ∃ (i : Nat) (pre : List SpI), (m = xs.length - i) ∧ (s0.ds = []) ∧ (s0.f 0 = (.func (.yield l) #[] #[])) ∧ (s0.f 11 = q4) ∧ (s0.f 12 = (.int .i64 (((xs).length : Nat) : Int))) ∧ (s0.f 13 = (.int .i64 ((i : Nat) : Int))) ∧ (Rd w0 encSpanC v_xs xs) ∧ (Row w0 w.heap.size 126 3 encSpanC q4 xs) ∧ (w0.heap[bx_m]? = some (.cells [(.pointer (some ⟨b_m, 0, none⟩))].toArray 61 (0, 0))) ∧ (w0.heap[b_m]? = some (.cells [v_xs, (.bool true)].toArray 115 (0, 0))) ∧ (w.heap.size ≤ w0.heap.size) ∧ (K ≤ w0.heap.size) ∧ (J K pre w0) ∧ (i ≤ xs.length) ∧ (pre = xs.take i)) _ ⟨0, [], rfl, by kernel_rfl, by kernel_rfl, by kernel_rfl, by kernel_rfl, by kernel_rfl, p_xs, r_q4, o_capm, o_capmm, hs, hK, hJ, by omega, rfl⟩ ?_
 rintro m8 s9 w10 ⟨i, pre, hm, hds, f_0, f_11, f_12, f_13, p_xs, r_q4, o_capm, o_capmm, hs, hK, hJ, i1, hpq⟩
 refine yK 0 _ f_0 (yK 11 _ f_11 (yK 12 _ f_12 (yK 13 _ f_13 ?_)))
 clear f_0 f_11 f_12 f_13
 refine zF (zD (K22 (yD .i64 ((i : Nat) : Int) (((xs).length : Nat) : Int) (i < (xs).length) rfl (cmpN_lt i ((xs).length))) ?_ ?_))
 ·intro h11
  replace h11 : i < (xs).length := by omega
  refine zE (zA (zF (K11 zS (zV (zA (zF (yP (zF (zD ?_)))))))))
  have hz := yT xs i (by omega); obtain ⟨x12, hx13⟩ := hz
  have hz := (r_q4.rd).at (k := 3) (fun _ => rfl) hx13
  obtain ⟨g14, off15, hl16, hc17⟩ := hz
  refine K21 (xE (k := .i64) q4 i _ g14 off15 xI hl16 (by omega)) (K32 (yH g14 (off15 + i * 3) [(.int .i32 x12.1), (.int .i32 x12.2.1), (.int .u8 x12.2.2)]) hc17 (K21 (yW (fun b => .pointer (some ⟨b, 0, none⟩)) (.cells [(.int .i32 0), (.int .i32 0), (.int .u8 0)].toArray 126 (0, 0))) ?_))
  intro b18 w19 hN20
  have g_x4 : w.heap.size ≤ b18 := by rw [hN20.num]; exact hs
  have hCJ := Ch.refl (Iv w.heap.size K) w10
  have jv_x4 : (World.heap w10).size ≤ b18 ∨ Iv w.heap.size K b18 := .inl (by rw [hN20.num]; exact hCJ.size)
  have nb_o_x4_r_q4 := r_q4.new_ne hN20
  replace hCJ := hCJ.trans2 (Ch.of_below hN20.below) (fun _ h => h.elim)
  replace hK := Nat.le_trans hK (hN20.below.size)
  replace hs := Nat.le_trans hs (hN20.below.size)
  replace o_capm := zB o_capm hN20.below
  replace o_capmm := zB o_capmm hN20.below
  replace p_xs := p_xs.below hN20.below
  replace r_q4 := r_q4.below hN20.below
  have o_x4 := hN20.here
  refine K26 (yX b18 0 [(.int .i32 x12.1), (.int .i32 x12.2.1), (.int .u8 x12.2.2)] [(.int .i32 0), (.int .i32 0), (.int .u8 0)] [(.int .i32 x12.1), (.int .i32 x12.2.1), (.int .u8 x12.2.2)] 126) rfl (by kernel_rfl) o_x4 (by kernel_rfl) rfl ?_
  intro w21 hW22
  replace hCJ := hCJ.trans2 (Ch.of_wrote hW22) (fun k e => e ▸ jv_x4)
  replace hK := Nat.le_trans hK (Nat.le_of_eq hW22.size.symm)
  replace hs := Nat.le_trans hs (Nat.le_of_eq hW22.size.symm)
  replace o_capm := zL o_capm hW22 (zT o_capm o_x4 (by simp))
  replace o_capmm := zL o_capmm hW22 (zT o_capmm o_x4 (by simp))
  replace p_xs := Rd.ch in_p_xs (Nat.le_refl _) p_xs (Ch.of_wrote hW22) (fun k e => e ▸ g_x4)
  replace r_q4 := r_q4.wrote hW22 nb_o_x4_r_q4
  replace o_x4 := hW22.here
  refine zE (zA (zF (zD (zI (K21 (zQ (.pointer (some ⟨b18, 0, none⟩))) (K22 (zZ b18 0 (.int .i32 x12.1)) (zM o_x4 rfl) (K21 (zQ (.pointer (some ⟨b18, 1, none⟩))) (K22 (zZ b18 1 (.int .i32 x12.2.1)) (zM o_x4 rfl) (K21 (zQ (Value.agg #[(.int .i32 x12.1), (.int .i32 x12.2.1)])) (K21 (zQ (.pointer (some ⟨b18, 2, none⟩))) (K22 (zZ b18 2 (.int .u8 x12.2.2)) (zM o_x4 rfl) ?_)))))))))))
  replace hJ := hJs _ _ _ _ hJ hCJ
  clear hCJ
  have hpre : pre ++ [((x12.1, x12.2.1, x12.2.2) : SpI)] <+: xs := by rw [hpq]; exact tk_pre (by assumption)
  refine K22 (L_yield l [(Value.agg #[(.int .i32 x12.1), (.int .i32 x12.2.1)]), (.int .u8 x12.2.2)]) (hY K pre ((x12.1, x12.2.1, x12.2.2) : SpI) _ hJ ⟨o_capm, o_capmm, p_xs⟩ hK0 hK hpre) ?_
  rintro e w23 (⟨rfl, hJ', hk, hN'⟩ | ⟨rfl, hJx, hk⟩)
  ·refine ⟨true, rfl, ?_⟩
   replace r_q4 := r_q4.kp hk ivr_r_q4
   replace hs := Nat.le_trans hs hk.size
   replace hK := Nat.le_trans hK hk.size
   replace hJ := hJ'
   obtain ⟨o_capm, o_capmm, p_xs⟩ := hN'
   refine K11 (L_not true) (zE (zA (K11 zN (zV (zP (zA (zD (K21 (xD i 1 (by omega)) (zI (zE ?_))))))))))
   refine zA ⟨_, ?_, (i + 1), (pre ++ [((x12.1, x12.2.1, x12.2.2) : SpI)]), rfl, hds, by kernel_rfl, by kernel_rfl, by kernel_rfl, by kernel_rfl, p_xs, r_q4, o_capm, o_capmm, hs, hK, hJ, ?_, ?_⟩
   ·omega
   ·omega
   ·rw [hpq]; exact tk_snoc (by assumption)
  ·refine ⟨false, rfl, ?_⟩
   replace hs := Nat.le_trans hs hk.size
   replace hK := Nat.le_trans hK hk.size
   refine K11 (L_not false) (zE (zA (K11 zS (zX (zU (zH (zH (zU ?_))))))))
   refine zO [] [] rfl hds trivial ?_
   exact ⟨hs, Or.inr ⟨K, _, _, hpre, hJx⟩⟩
 ·intro h24
  replace h24 : (xs).length ≤ i := by omega
  refine zE (zA (zF (K11 zN (W_exit (yM (yM (xM ?_)))))))
  refine end_normal [] [] rfl hds trivial ?_
  have epre : pre = xs := by first | (rw [hpq, List.take_of_length_le (by omega)]; done)
  rw [epre] at hJ
  exact ⟨hs, Or.inl ⟨K, hJ⟩⟩
theorem c_all_C (b_m : Nat) (v_xs : Value) (xs : List (Int × Int × Int)) (w : World) (o_m : w.heap[b_m]? = some (.cells [v_xs, (.bool true)].toArray 115 (0, 0))) (p_xs : Rd w encSpanC v_xs xs) :
  Calls Tryz.prog 35 #[(.pointer (some ⟨b_m, 0, none⟩))] w (Ret fun v w' => ∃ (cb0 : Nat), v = (.func (.func 68) #[] #[(.pointer (some ⟨cb0, 0, none⟩))]) ∧ w'.heap[cb0]? = some (.cells [(.pointer (some ⟨b_m, 0, none⟩))].toArray 61 (0, 0)) ∧ w.heap.size ≤ cb0 ∧ Below w.heap.size w w') := by
 refine K11 (enter (args := [(.pointer (some ⟨b_m, 0, none⟩))]) Tryz.func35 rfl (by kernel_rfl : _ = 4)) ?_
 have hb := Below.refl w.heap.size w
 have hs : w.heap.size ≤ w.heap.size := Nat.le_refl _
 refine zF (zD (K21 (yW (fun b => .pointer (some ⟨b, 0, none⟩)) (.cells [(.pointer (some ⟨b_m, 0, none⟩))].toArray 61 (0, 0))) ?_))
 intro b1 w2 hN3
 have g_x1 : w.heap.size ≤ b1 := by rw [hN3.num]; exact hs
 replace hb := hb.trans (hN3.below.mono hs)
 replace hs := Nat.le_trans hs (hN3.below.size)
 have o_x1 := hN3.here
 refine zJ (zE (zA (zF (zD (K21 (zQ (.func (.func 68) #[] #[(.pointer (some ⟨b1, 0, none⟩))])) (zJ (zE (zA (zX ?_)))))))))
 refine zO [.tmp 2] [(.func (.func 68) #[] #[(.pointer (some ⟨b1, 0, none⟩))])] rfl rfl ⟨by kernel_rfl, trivial⟩ ?_
 exact ⟨b1, rfl, o_x1, g_x1, hb⟩
end Go.Proofs.YtkclikfejmeblaaGreatDoor
end
