/- Joined by my program pack.py out of my own texts: WcmI WcnI WcmC. -/
import Derived.Test.YtkclikfejmeblaaGreatDoorProg
import Derived.Tactics2
import Derived.Test.YtkclikfejmeblaaGreatDoorQ2
import Derived.Test.YtkclikfejmeblaaGreatDoorQ3
set_option linter.unusedVariables false
set_option linter.unusedSimpArgs false
/- === WcmI === -/
section
/- Walks, written by my program walk.py out of the specification cmI.py: each theorem says what one function returns and that it leaves memory as it was. -/
namespace Go.Proofs.YtkclikfejmeblaaGreatDoor
open Go Go.RowKit Go.FK
set_option maxHeartbeats 4000000
set_option maxRecDepth 100000
set_option linter.unusedVariables false
set_option linter.unusedSimpArgs false
theorem xJ : Elem Tryz.prog 116 131 3 16 := ⟨Tryz.underlying116, by kernel_rfl, rfl⟩
theorem c_new_I (w : World) :
  Calls Tryz.prog 29 #[] w (Ret fun v w' => ∃ (cb0 : Nat), v = (.pointer (some ⟨cb0, 0, none⟩)) ∧ w'.heap[cb0]? = some (.cells [(.slice none 0 0), (.bool true)].toArray 118 (0, 0)) ∧ w.heap.size ≤ cb0 ∧ Below w.heap.size w w') := by
 refine K11 (enter (args := []) Tryz.func29 rfl (by kernel_rfl : _ = 3)) ?_
 have hb := Below.refl w.heap.size w
 have hs : w.heap.size ≤ w.heap.size := Nat.le_refl _
 refine zF (zD (zJ (zE (zA (zF (zD (K21 (zQ (Value.agg #[(.slice none 0 0), (.bool true)])) (K21 (yW (fun b => .pointer (some ⟨b, 0, none⟩)) (.cells [(.slice none 0 0), (.bool true)].toArray 118 (0, 0))) ?_))))))))
 intro b1 w2 hN3
 have g_x2 : w.heap.size ≤ b1 := by rw [hN3.num]; exact hs
 replace hb := hb.trans (hN3.below.mono hs)
 replace hs := Nat.le_trans hs (hN3.below.size)
 have o_x2 := hN3.here
 refine zJ (zE (zA (zX ?_)))
 refine zO [.tmp 0] [(.pointer (some ⟨b1, 0, none⟩))] rfl rfl ⟨by kernel_rfl, trivial⟩ ?_
 exact ⟨b1, rfl, o_x2, g_x2, hb⟩
theorem c_none_I (b_m : Nat) (v_xs : Value) (xs : List (Int × Int × Int)) (w : World) (o_m : w.heap[b_m]? = some (.cells [v_xs, (.bool true)].toArray 118 (0, 0))) (p_xs : Rd w encSpanI v_xs xs) :
  Calls Tryz.prog 72 #[(.pointer (some ⟨b_m, 0, none⟩))] w (Ret fun v w' => v = (.bool false) ∧ Below w.heap.size w w') := by
 refine K11 (enter (args := [(.pointer (some ⟨b_m, 0, none⟩))]) Tryz.func72 rfl (by kernel_rfl : _ = 12)) ?_
 have hb := Below.refl w.heap.size w
 have hs : w.heap.size ≤ w.heap.size := Nat.le_refl _
 refine zF (zD (zJ (zE (zA (zF (zD (zI (K21 (zQ (.bool false)) (zI (K11 zY (zI (K11 zY (K21 (zQ (.pointer (some ⟨b_m, 0, none⟩))) (K11 zY (K21 (zQ (.pointer (some ⟨b_m, 1, none⟩))) (K11 zY (K22 (zZ b_m 1 (.bool true)) (zM o_m rfl) (K11 zY (K11 (L_not true) (K11 yV (zJ (zE (zA (zX ?_))))))))))))))))))))))))
 refine zO [.tmp 2] [(.bool false)] rfl rfl ⟨by kernel_rfl, trivial⟩ ?_
 have e0 : false = false := by rfl
 exact ⟨congrArg Value.bool e0, hb⟩
theorem c_cmp_I (lo : Int) (hi : Int) (val : Int) (x : Int) (w : World) (h1 : -2147483648 ≤ hi ∧ hi ≤ 2147483647) (h2 : -2147483648 ≤ x ∧ x ≤ 2147483647) :
  Calls Tryz.prog 111 #[(Value.agg #[(.int .i32 lo), (.int .i32 hi), (.int .i64 val)]), (.int .i32 x)] w (Ret fun v w' => v = (.int .i64 (hi - x)) ∧ Below w.heap.size w w') := by
 refine K11 (enter (args := [(Value.agg #[(.int .i32 lo), (.int .i32 hi), (.int .i64 val)]), (.int .i32 x)]) Tryz.func111 rfl (by kernel_rfl : _ = 11)) ?_
 have hb := Below.refl w.heap.size w
 have hs : w.heap.size ≤ w.heap.size := Nat.le_refl _
 refine zF (zD (K21 (yW (fun b => .pointer (some ⟨b, 0, none⟩)) (.cells [(.int .i32 lo), (.int .i32 hi), (.int .i64 val)].toArray 131 (0, 0))) ?_))
 intro b1 w2 hN3
 have g_x2 : w.heap.size ≤ b1 := by rw [hN3.num]; exact hs
 replace hb := hb.trans (hN3.below.mono hs)
 replace hs := Nat.le_trans hs (hN3.below.size)
 have o_x2 := hN3.here
 refine zJ (zE (zA (zF (zD (K21 (zQ (.pointer (some ⟨b1, 1, none⟩))) (K22 (zZ b1 1 (.int .i32 hi)) (zM o_x2 rfl) (K12 (L_conv (k := .i32) hi hi (by kernel_rfl) Tryz.underlying3) (xL _ (by omega) (by omega)) (zI (K12 (L_conv (k := .i32) x x (by kernel_rfl) Tryz.underlying3) (xL _ (by omega) (by omega)) (K22 (xS hi x (hi - x) rfl) (xL _ (by simp only [arithZ]; omega) (by simp only [arithZ]; omega)) (zJ (zE (zA (zX ?_))))))))))))))
 refine zO [.tmp 4] [(.int .i64 (hi - x))] rfl rfl ⟨by kernel_rfl, trivial⟩ ?_
 have e0 : ((hi - x) : Int) = (hi - x) := by rfl
 exact ⟨congrArg (Value.int .i64) e0, hb⟩
theorem c_bsf_I (v_xs : Value) (xs : List (Int × Int × Int)) (x : Int) (w : World) (p_xs : Rd w encSpanI v_xs xs) (hr : RiseG 0 xs) (hx : -2147483648 ≤ x ∧ x ≤ 2147483647) :
  Calls Tryz.prog 110 #[v_xs, (.int .i32 x), (.func (.func 111) #[] #[])] w (Ret fun v w' => v = (.tuple #[(.int .i64 (((fromG xs x) : Nat) : Int)), (.bool (foundG xs x))]) ∧ Below w.heap.size w w') := by
 refine K11 (enter (args := [v_xs, (.int .i32 x), (.func (.func 111) #[] #[])]) Tryz.func110 rfl (by kernel_rfl : _ = 49)) ?_
 have hb := Below.refl w.heap.size w
 have hs : w.heap.size ≤ w.heap.size := Nat.le_refl _
 have hln := hr.len
 refine zF (zD (zJ (zJ (zE (zA (zF (zD (zI (K11 (L_len 116 131 (xs).length v_xs rfl Tryz.underlying116 (p_xs).len) (zJ (zE (zA (zF (zD (zI (zJ (zJ (zE (zA (zF (yP ?_)))))))))))))))))))))
 refine W_loop (fun m s0 w0 => ∃ (i : Nat) (j : Nat), (m = j - i) ∧ (s0.ds = []) ∧ (s0.f 0 = v_xs) ∧ (s0.f 1 = (.int .i32 x)) ∧ (s0.f 2 = (.func (.func 111) #[] #[])) ∧ (s0.f 6 = (.int .i64 0)) ∧ (s0.f 7 = (.bool false)) ∧ (s0.f 8 = (.int .i64 (((xs).length : Nat) : Int))) ∧ (s0.f 9 = (.int .i64 ((i : Nat) : Int))) ∧ (s0.f 10 = (.int .i64 ((j : Nat) : Int))) ∧ (Rd w0 encSpanI v_xs xs) ∧ (Below w.heap.size w w0) ∧ (w.heap.size ≤ w0.heap.size) ∧ (i ≤ j) ∧ (j ≤ xs.length) ∧ (lowG xs x i) ∧ (highG xs x j)) _ ⟨0, ((xs).length), rfl, by kernel_rfl, by kernel_rfl, by kernel_rfl, by kernel_rfl, by kernel_rfl, by kernel_rfl, by kernel_rfl, by kernel_rfl, by kernel_rfl, p_xs, hb, hs, by omega, by omega, lowG_zero xs x, highG_end xs x⟩ ?_
 rintro m1 s2 w3 ⟨i, j, hm, hds, f_0, f_1, f_2, f_6, f_7, f_8, f_9, f_10, p_xs, hb, hs, i1, i2, i3, i4⟩
 refine yK 0 _ f_0 (yK 1 _ f_1 (yK 2 _ f_2 (yK 6 _ f_6 (yK 7 _ f_7 (yK 8 _ f_8 (yK 9 _ f_9 (yK 10 _ f_10 ?_)))))))
 clear f_0 f_1 f_2 f_6 f_7 f_8 f_9 f_10
 refine zF (zF (zD (zI (zI (K22 (yD .i64 ((i : Nat) : Int) ((j : Nat) : Int) (i < j) rfl (cmpN_lt i j)) ?_ ?_)))))
 ·intro h4
  replace h4 : i < j := by omega
  refine zE (zA (K11 zS (zV (zA (yP (zF (zD (zI (zI (K21 (xD i j (by omega)) (K12 (L_conv (k := .i64) (((i + j) : Nat) : Int) (((i + j) : Nat) : Int) (by kernel_rfl) Tryz.underlying187) (wrap_u64 _ (by omega) (by omega)) (K31 (L_shr (k := .u64) (yk := .u64) (((i + j) : Nat) : Int) 1 2 rfl) (K12 (L_conv (k := .u64) ((((i + j) / 2) : Nat) : Int) ((((i + j) / 2) : Nat) : Int) (by kernel_rfl) Tryz.underlying3) (xL _ (by omega) (by omega)) (zJ (zE (zA (zF (zD (zI (zI (zI ?_)))))))))))))))))))))
  have hz := yT xs ((i + j) / 2) (by omega); obtain ⟨x5, hx6⟩ := hz
  have hz := (p_xs).at (k := 3) (fun _ => rfl) hx6
  obtain ⟨g7, off8, hl9, hc10⟩ := hz
  have hre := hr.at hx6
  refine K21 (xE (k := .i64) v_xs ((i + j) / 2) _ g7 off8 xJ hl9 (by omega)) (K32 (yH g7 (off8 + ((i + j) / 2) * 3) [(.int .i32 x5.1), (.int .i32 x5.2.1), (.int .i64 x5.2.2)]) hc10 (zI (K22 (yA 111 [(Value.agg #[(.int .i32 x5.1), (.int .i32 x5.2.1), (.int .i64 x5.2.2)]), (.int .i32 x)]) (c_cmp_I x5.1 x5.2.1 x5.2.2 x _ (by omega) (by omega)) ?_)))
  rintro _ w11 ⟨rfl, hB12⟩
  replace hb := hb.trans (hB12.mono hs)
  replace hs := Nat.le_trans hs (hB12.size)
  replace p_xs := p_xs.below hB12
  refine K22 (yD .i64 (x5.2.1 - x) 0 ((x5.2.1 - x) < 0) rfl (cmp_lt (x5.2.1 - x) 0)) ?_ ?_
  ·intro h14
   replace h14 : (x5.2.1 - x) < 0 := by omega
   refine zE (zA (K11 zS (zD (zI (K21 (xD ((i + j) / 2) 1 (by omega)) (zJ (zE (zP ?_))))))))
   refine zA ⟨_, ?_, (((i + j) / 2) + 1), j, rfl, hds, by kernel_rfl, by kernel_rfl, by kernel_rfl, by kernel_rfl, by kernel_rfl, by kernel_rfl, by kernel_rfl, by kernel_rfl, p_xs, hb, hs, ?_, ?_, ?_, ?_⟩
   ·omega
   ·omega
   ·omega
   ·exact lowG_step hr (by assumption) (by omega)
   ·exact i4
  ·intro h15
   replace h15 : 0 ≤ (x5.2.1 - x) := by omega
   refine zE (zA (K11 zN (zD (zI (zJ (zE (zP ?_)))))))
   refine zA ⟨_, ?_, i, ((i + j) / 2), rfl, hds, by kernel_rfl, by kernel_rfl, by kernel_rfl, by kernel_rfl, by kernel_rfl, by kernel_rfl, by kernel_rfl, by kernel_rfl, p_xs, hb, hs, ?_, ?_, ?_, ?_⟩
   ·omega
   ·omega
   ·omega
   ·exact i3
   ·exact highG_step (by assumption) (by omega)
 ·intro h16
  replace h16 : j ≤ i := by omega
  refine zE (zA (K11 zN (W_exit (yM (yM (xM (zA (zF (zD (zI (zI (zI (K22 (yD .i64 ((i : Nat) : Int) (((xs).length : Nat) : Int) (i < (xs).length) rfl (cmpN_lt i ((xs).length))) ?_ ?_)))))))))))))
  ·intro h17
   replace h17 : i < (xs).length := by omega
   refine zI (K11 zY (zI (K11 zY (zI (K11 zY (zI (K11 zY ?_)))))))
   have hz := yT xs i (by omega); obtain ⟨x18, hx19⟩ := hz
   have hz := (p_xs).at (k := 3) (fun _ => rfl) hx19
   obtain ⟨g20, off21, hl22, hc23⟩ := hz
   have hre := hr.at hx19
   refine K21 (xE (k := .i64) v_xs i _ g20 off21 xJ hl22 (by omega)) (K11 zY (K32 (yH g20 (off21 + i * 3) [(.int .i32 x18.1), (.int .i32 x18.2.1), (.int .i64 x18.2.2)]) hc23 (K11 zY (zI (K11 zY (K22 (yA 111 [(Value.agg #[(.int .i32 x18.1), (.int .i32 x18.2.1), (.int .i64 x18.2.2)]), (.int .i32 x)]) (c_cmp_I x18.1 x18.2.1 x18.2.2 x _ (by omega) (by omega)) ?_))))))
   rintro _ w24 ⟨rfl, hB25⟩
   replace hb := hb.trans (hB25.mono hs)
   replace hs := Nat.le_trans hs (hB25.size)
   refine K11 zY (K22 (yD .i64 (x18.2.1 - x) 0 ((x18.2.1 - x) = 0) rfl (xB (x18.2.1 - x) 0)) ?_ ?_)
   ·intro h27
    replace h27 : (x18.2.1 - x) = 0 := by omega
    refine K11 yU (zJ (zJ (zE (zA (zX ?_)))))
    refine zO [.tmp 6, .tmp 7] [(.int .i64 ((i : Nat) : Int)), (.bool true)] rfl hds ⟨by kernel_rfl, by kernel_rfl, trivial⟩ ?_
    have hE : (i = (fromG xs x)) ∧ (true = (foundG xs x)) := ⟨(by exact (fromG_done i3 i4 i1 (by omega) i2).symm), (by (rw [foundG_some (fromG_done i3 i4 i1 (by omega) i2) (by assumption)]; simp; omega))⟩
    exact ⟨xG (congrArg (fun x : Nat => Value.int .i64 (x : Int)) hE.1) (congrArg Value.bool hE.2), hb⟩
   ·intro h28
    replace h28 : (x18.2.1 - x) ≠ 0 := by omega
    refine K11 yU (zJ (zJ (zE (zA (zX ?_)))))
    refine zO [.tmp 6, .tmp 7] [(.int .i64 ((i : Nat) : Int)), (.bool false)] rfl hds ⟨by kernel_rfl, by kernel_rfl, trivial⟩ ?_
    have hE : (i = (fromG xs x)) ∧ (false = (foundG xs x)) := ⟨(by exact (fromG_done i3 i4 i1 (by omega) i2).symm), (by (rw [foundG_some (fromG_done i3 i4 i1 (by omega) i2) (by assumption)]; simp; omega))⟩
    exact ⟨xG (congrArg (fun x : Nat => Value.int .i64 (x : Int)) hE.1) (congrArg Value.bool hE.2), hb⟩
  ·intro h29
   replace h29 : (xs).length ≤ i := by omega
   refine zI (K11 yC (K11 yC (K11 yC (K11 yC (K11 yC (K11 yC (K11 yC (K11 yC (K11 yV (zJ (zJ (zE (zA (zX ?_))))))))))))))
   refine zO [.tmp 6, .tmp 7] [(.int .i64 ((i : Nat) : Int)), (.bool false)] rfl hds ⟨by kernel_rfl, by kernel_rfl, trivial⟩ ?_
   have hE : (i = (fromG xs x)) ∧ (false = (foundG xs x)) := ⟨(by exact (fromG_done i3 i4 i1 (by omega) i2).symm), (by (rw [foundG_none (fromG_done i3 i4 i1 (by omega) i2) (by omega)]; done))⟩
   exact ⟨xG (congrArg (fun x : Nat => Value.int .i64 (x : Int)) hE.1) (congrArg Value.bool hE.2), hb⟩
theorem c_from_I (b_m : Nat) (v_xs : Value) (xs : List (Int × Int × Int)) (x : Int) (w : World) (o_m : w.heap[b_m]? = some (.cells [v_xs, (.bool true)].toArray 118 (0, 0))) (p_xs : Rd w encSpanI v_xs xs) (hr : RiseG 0 xs) (hx : -2147483648 ≤ x ∧ x ≤ 2147483647) :
  Calls Tryz.prog 73 #[(.pointer (some ⟨b_m, 0, none⟩)), (.int .i32 x)] w (Ret fun v w' => v = (.int .i64 (((fromG xs x) : Nat) : Int)) ∧ Below w.heap.size w w') := by
 refine K11 (enter (args := [(.pointer (some ⟨b_m, 0, none⟩)), (.int .i32 x)]) Tryz.func73 rfl (by kernel_rfl : _ = 17)) ?_
 have hb := Below.refl w.heap.size w
 have hs : w.heap.size ≤ w.heap.size := Nat.le_refl _
 have hln := hr.len
 refine zF (zD (zJ (zE (zA (zF (zD (zI (K21 (zQ (.pointer (some ⟨b_m, 0, none⟩))) (K21 (zQ (.pointer (some ⟨b_m, 0, none⟩))) (K22 (zZ b_m 0 v_xs) (zM o_m rfl) (zI (K22 (yA 110 [v_xs, (.int .i32 x), (.func (.func 111) #[] #[])]) (c_bsf_I v_xs xs x _ p_xs (by exact hr) (by omega)) ?_))))))))))))
 rintro _ w1 ⟨rfl, hB2⟩
 replace hb := hb.trans (hB2.mono hs)
 replace hs := Nat.le_trans hs (hB2.size)
 refine zI (K21 (zQ (.int .i64 (((fromG xs x) : Nat) : Int))) (K21 (zQ (.bool (foundG xs x))) (zJ (zJ (zE (zA (zF (zD (zI (zJ (zE (zA (zX ?_)))))))))))))
 refine zO [.tmp 4] [(.int .i64 (((fromG xs x) : Nat) : Int))] rfl rfl ⟨by kernel_rfl, trivial⟩ ?_
 have e0 : (fromG xs x) = (fromG xs x) := by rfl
 exact ⟨congrArg (fun x : Nat => Value.int .i64 (x : Int)) e0, hb⟩
theorem c_at_I (b_m : Nat) (v_xs : Value) (xs : List (Int × Int × Int)) (x : Int) (w : World) (o_m : w.heap[b_m]? = some (.cells [v_xs, (.bool true)].toArray 118 (0, 0))) (p_xs : Rd w encSpanI v_xs xs) (hr : RiseG 0 xs) :
  Calls Tryz.prog 41 #[(.pointer (some ⟨b_m, 0, none⟩)), (.int .i32 x)] w (Ret fun v w' => v = (.tuple #[(.int .i64 ((atM 0 xs x).1)), (.bool ((atM 0 xs x).2))]) ∧ Below w.heap.size w w') := by
 refine K11 (enter (args := [(.pointer (some ⟨b_m, 0, none⟩)), (.int .i32 x)]) Tryz.func41 rfl (by kernel_rfl : _ = 50)) ?_
 have hb := Below.refl w.heap.size w
 have hs : w.heap.size ≤ w.heap.size := Nat.le_refl _
 have hln := hr.len
 refine zF (zD (zJ (zJ (zE (zA (zF (zD (zJ (zE (zA (zF (zF (zD (zI (K22 (yA 72 [(.pointer (some ⟨b_m, 0, none⟩))]) (c_none_I b_m v_xs xs _ o_m p_xs) ?_)))))))))))))))
 rintro _ w1 ⟨rfl, hB2⟩
 replace hb := hb.trans (hB2.mono hs)
 replace hs := Nat.le_trans hs (hB2.size)
 replace o_m := zB o_m hB2
 replace p_xs := p_xs.below hB2
 refine zI (K11 zY (zI (K11 zY (K22 (yD .i32 x 0 (x < 0) rfl (cmp_lt x 0)) ?_ ?_))))
 ·intro h4
  replace h4 : x < 0 := by omega
  refine K11 yV (zI (K11 yC (K11 yC (K11 yU (zE (zA (K11 zS (zF (zD (zI (zJ (zJ (zE (zA (zX (zH ?_))))))))))))))))
  refine zO [.tmp 4, .tmp 5] [(.int .i64 0), (.bool false)] rfl rfl ⟨by kernel_rfl, by kernel_rfl, trivial⟩ ?_
  have hE : ((0 : Int) = (atM 0 xs x).1) ∧ (false = (atM 0 xs x).2) := ⟨(by (rw [atG_out (by omega)]; done)), (by (rw [atG_out (by omega)]; done))⟩
  exact ⟨xG (congrArg (Value.int .i64) hE.1) (congrArg Value.bool hE.2), hb⟩
 ·intro h5
  replace h5 : 0 ≤ x := by omega
  refine K11 yV (zI (K11 zY (zI (K11 zY (K22 (yD .i32 x 1114111 (1114111 < x) rfl (cmp_gt x 1114111)) ?_ ?_)))))
  ·intro h6
   replace h6 : 1114111 < x := by omega
   refine K11 yV (zE (zA (K11 zS (zF (zD (zI (zJ (zJ (zE (zA (zX (zH ?_))))))))))))
   refine zO [.tmp 4, .tmp 5] [(.int .i64 0), (.bool false)] rfl rfl ⟨by kernel_rfl, by kernel_rfl, trivial⟩ ?_
   have hE : ((0 : Int) = (atM 0 xs x).1) ∧ (false = (atM 0 xs x).2) := ⟨(by (rw [atG_out (by omega)]; done)), (by (rw [atG_out (by omega)]; done))⟩
   exact ⟨xG (congrArg (Value.int .i64) hE.1) (congrArg Value.bool hE.2), hb⟩
  ·intro h7
   replace h7 : x ≤ 1114111 := by omega
   refine K11 yV (zE (zA (K11 zN (zV (zA (zF (zF (zD (zI (zI (K22 (yA 73 [(.pointer (some ⟨b_m, 0, none⟩)), (.int .i32 x)]) (c_from_I b_m v_xs xs x _ o_m p_xs (by exact hr) (by omega)) ?_)))))))))))
   rintro _ w8 ⟨rfl, hB9⟩
   replace hb := hb.trans (hB9.mono hs)
   replace hs := Nat.le_trans hs (hB9.size)
   replace o_m := zB o_m hB9
   replace p_xs := p_xs.below hB9
   have := fromG_le xs x
   refine zJ (zE (zA (zF (zD (zI (zI (K21 (zQ (.pointer (some ⟨b_m, 0, none⟩))) (K21 (zQ (.pointer (some ⟨b_m, 0, none⟩))) (K22 (zZ b_m 0 v_xs) (zM o_m rfl) (K11 (L_len 116 131 (xs).length v_xs rfl Tryz.underlying116 (p_xs).len) (K22 (yD .i64 (((fromG xs x) : Nat) : Int) (((xs).length : Nat) : Int) ((fromG xs x) < (xs).length) rfl (cmpN_lt (fromG xs x) ((xs).length))) ?_ ?_)))))))))))
   ·intro h11
    replace h11 : (fromG xs x) < (xs).length := by omega
    refine zI (K11 zY (zI (K11 zY (K21 (zQ (.pointer (some ⟨b_m, 0, none⟩))) (K11 zY (K21 (zQ (.pointer (some ⟨b_m, 0, none⟩))) (K11 zY (K22 (zZ b_m 0 v_xs) (zM o_m rfl) (K11 zY (zI (K11 zY ?_)))))))))))
    have hz := yT xs (fromG xs x) (by omega); obtain ⟨x12, hx13⟩ := hz
    have hz := (p_xs).at (k := 3) (fun _ => rfl) hx13
    obtain ⟨g14, off15, hl16, hc17⟩ := hz
    refine K21 (xE (k := .i64) v_xs (fromG xs x) _ g14 off15 xJ hl16 (by omega)) (K11 zY (K21 (zQ (.pointer (some ⟨g14, (off15 + (fromG xs x) * 3), none⟩))) (K11 zY (K22 (zZ g14 (off15 + (fromG xs x) * 3) (.int .i32 x12.1)) (hc17 0 _ rfl) (K11 zY (zI (K11 zY (K22 (yD .i32 x12.1 x (x12.1 ≤ x) rfl (cmp_le x12.1 x)) ?_ ?_))))))))
    ·intro h18
     replace h18 : x12.1 ≤ x := by omega
     refine K11 yU (zE (zA (K11 zS (zF (zD (zI (K21 (zQ (.pointer (some ⟨b_m, 0, none⟩))) (K21 (zQ (.pointer (some ⟨b_m, 0, none⟩))) (K22 (zZ b_m 0 v_xs) (zM o_m rfl) (zI ?_))))))))))
     have hz := (p_xs).at (k := 3) (fun _ => rfl) hx13
     obtain ⟨g21, off22, hl23, hc24⟩ := hz
     refine K21 (xE (k := .i64) v_xs (fromG xs x) _ g21 off22 xJ hl23 (by omega)) (K21 (zQ (.pointer (some ⟨g21, ((off22 + (fromG xs x) * 3) + 2), none⟩))) (K22 (zZ g21 ((off22 + (fromG xs x) * 3) + 2) (.int .i64 x12.2.2)) (hc24 2 _ rfl) (zJ (zJ (zE (zA (zX (zH ?_))))))))
     refine zO [.tmp 4, .tmp 5] [(.int .i64 x12.2.2), (.bool true)] rfl rfl ⟨by kernel_rfl, by kernel_rfl, trivial⟩ ?_
     have hE : ((x12.2.2 : Int) = (atM 0 xs x).1) ∧ (true = (atM 0 xs x).2) := ⟨(by (rw [atG_in hr (by omega) (by omega) (by assumption) (by omega)]; done)), (by (rw [atG_in hr (by omega) (by omega) (by assumption) (by omega)]; done))⟩
     exact ⟨xG (congrArg (Value.int .i64) hE.1) (congrArg Value.bool hE.2), hb⟩
    ·intro h25
     replace h25 : x < x12.1 := by omega
     refine K11 yU (zE (zA (K11 zN (zV (zA (zF (zD (zI (zJ (zJ (zE (zA (zX ?_)))))))))))))
     refine zO [.tmp 4, .tmp 5] [(.int .i64 0), (.bool false)] rfl rfl ⟨by kernel_rfl, by kernel_rfl, trivial⟩ ?_
     have hE : ((0 : Int) = (atM 0 xs x).1) ∧ (false = (atM 0 xs x).2) := ⟨(by (rw [atG_gap hr (by omega) (by omega) (by assumption) (by omega)]; done)), (by (rw [atG_gap hr (by omega) (by omega) (by assumption) (by omega)]; done))⟩
     exact ⟨xG (congrArg (Value.int .i64) hE.1) (congrArg Value.bool hE.2), hb⟩
   ·intro h26
    replace h26 : (xs).length ≤ (fromG xs x) := by omega
    refine zI (K11 yC (K11 yC (K11 yC (K11 yC (K11 yC (K11 yC (K11 yC (K11 yC (K11 yC (K11 yC (K11 yV (zE (zA (K11 zN (zV (zA (zF (zD (zI (zJ (zJ (zE (zA (zX ?_))))))))))))))))))))))))
    refine zO [.tmp 4, .tmp 5] [(.int .i64 0), (.bool false)] rfl rfl ⟨by kernel_rfl, by kernel_rfl, trivial⟩ ?_
    have hE : ((0 : Int) = (atM 0 xs x).1) ∧ (false = (atM 0 xs x).2) := ⟨(by (rw [atG_end (by omega) (by omega) (by omega)]; done)), (by (rw [atG_end (by omega) (by omega) (by omega)]; done))⟩
    exact ⟨xG (congrArg (Value.int .i64) hE.1) (congrArg Value.bool hE.2), hb⟩
theorem c_meets_I (b_m : Nat) (v_xs : Value) (xs : List (Int × Int × Int)) (lo : Int) (hi : Int) (w : World) (o_m : w.heap[b_m]? = some (.cells [v_xs, (.bool true)].toArray 118 (0, 0))) (p_xs : Rd w encSpanI v_xs xs) (hr : RiseG 0 xs) (hlo : -2147483648 ≤ lo ∧ lo ≤ 2147483647) :
  Calls Tryz.prog 101 #[(.pointer (some ⟨b_m, 0, none⟩)), (Value.agg #[(.int .i32 lo), (.int .i32 hi)])] w (Ret fun v w' => v = (.tuple #[(Value.agg #[(.int .i32 ((metV 0 (metG xs lo hi)).1)), (.int .i32 ((metV 0 (metG xs lo hi)).2.1))]), (.int .i64 ((metV 0 (metG xs lo hi)).2.2.1)), (.bool ((metV 0 (metG xs lo hi)).2.2.2))]) ∧ Below w.heap.size w w') := by
 refine K11 (enter (args := [(.pointer (some ⟨b_m, 0, none⟩)), (Value.agg #[(.int .i32 lo), (.int .i32 hi)])]) Tryz.func101 rfl (by kernel_rfl : _ = 69)) ?_
 have hb := Below.refl w.heap.size w
 have hs : w.heap.size ≤ w.heap.size := Nat.le_refl _
 have in_p_xs := p_xs
 have hln := hr.len
 refine zF (zD (K21 (yW (fun b => .pointer (some ⟨b, 0, none⟩)) (.cells [(.int .i32 lo), (.int .i32 hi)].toArray 32 (0, 0))) ?_))
 intro b1 w2 hN3
 have g_x3 : w.heap.size ≤ b1 := by rw [hN3.num]; exact hs
 replace hb := hb.trans (hN3.below.mono hs)
 replace hs := Nat.le_trans hs (hN3.below.size)
 replace o_m := zB o_m hN3.below
 replace p_xs := p_xs.below hN3.below
 have o_x3 := hN3.here
 refine K21 (yW (fun b => .pointer (some ⟨b, 0, none⟩)) (.cells [(.int .i32 0), (.int .i32 0)].toArray 32 (0, 0))) ?_
 intro b4 w5 hN6
 have g_x4 : w.heap.size ≤ b4 := by rw [hN6.num]; exact hs
 replace hb := hb.trans (hN6.below.mono hs)
 replace hs := Nat.le_trans hs (hN6.below.size)
 replace o_m := zB o_m hN6.below
 replace o_x3 := zB o_x3 hN6.below
 replace p_xs := p_xs.below hN6.below
 have o_x4 := hN6.here
 refine zJ (zJ (zE (zA (zF (zD (zJ (zE (zA (zF (zF (zD (zI (K22 (yA 72 [(.pointer (some ⟨b_m, 0, none⟩))]) (c_none_I b_m v_xs xs _ o_m p_xs) ?_)))))))))))))
 rintro _ w7 ⟨rfl, hB8⟩
 replace hb := hb.trans (hB8.mono hs)
 replace hs := Nat.le_trans hs (hB8.size)
 replace o_m := zB o_m hB8
 replace o_x3 := zB o_x3 hB8
 replace o_x4 := zB o_x4 hB8
 replace p_xs := p_xs.below hB8
 refine zI (K11 zY (K32 (yH b1 0 [(.int .i32 lo), (.int .i32 hi)]) (K10 (yN o_x3 0)) (K11 zY (K22 (yA 64 [(Value.agg #[(.int .i32 lo), (.int .i32 hi)])]) (c_points_May lo hi _) ?_))))
 rintro _ w10 ⟨rfl, hB11⟩
 replace hb := hb.trans (hB11.mono hs)
 replace hs := Nat.le_trans hs (hB11.size)
 replace o_m := zB o_m hB11
 replace o_x3 := zB o_x3 hB11
 replace o_x4 := zB o_x4 hB11
 replace p_xs := p_xs.below hB11
 refine xK (mayF lo hi) ?_ ?_
 ·intro h13
  refine K11 zY (K11 (L_not true) (K11 yV (zE (zA (K11 zN (zV (zA (zF (zF (zD (zI (K21 (zQ (.pointer (some ⟨b1, 0, none⟩))) (K22 (zZ b1 0 (.int .i32 lo)) (zM o_x3 rfl) (K22 (yA 73 [(.pointer (some ⟨b_m, 0, none⟩)), (.int .i32 lo)]) (c_from_I b_m v_xs xs lo _ o_m p_xs (by exact hr) (by omega)) ?_))))))))))))))
  rintro _ w14 ⟨rfl, hB15⟩
  replace hb := hb.trans (hB15.mono hs)
  replace hs := Nat.le_trans hs (hB15.size)
  replace o_m := zB o_m hB15
  replace o_x3 := zB o_x3 hB15
  replace o_x4 := zB o_x4 hB15
  replace p_xs := p_xs.below hB15
  have := fromG_le xs lo
  refine zJ (zE (zA (zF (K21 W_quiet (yI (yI (yS (.pointer (some ⟨b_m, 0, none⟩)) (fun _ => by kernel_rfl) (yS (.pointer (some ⟨b_m, 0, none⟩)) (fun _ => by kernel_rfl) (K13 (yY b_m 0 v_xs) (fun _ => by kernel_rfl) (zM o_m rfl) (K11 (Lq_len 116 131 (xs).length v_xs rfl Tryz.underlying116 (p_xs).len) (K22 (Lq_cmp .i64 (((fromG xs lo) : Nat) : Int) (((xs).length : Nat) : Int) ((fromG xs lo) < (xs).length) rfl (cmpN_lt (fromG xs lo) ((xs).length))) ?_ ?_)))))))))))
  ·intro h17
   replace h17 : (fromG xs lo) < (xs).length := by omega
   refine yI (K11 yB (yI (K11 yB (yS (.pointer (some ⟨b_m, 0, none⟩)) (fun _ => by kernel_rfl) (K11 yB (yS (.pointer (some ⟨b_m, 0, none⟩)) (fun _ => by kernel_rfl) (K11 yB (K13 (yY b_m 0 v_xs) (fun _ => by kernel_rfl) (zM o_m rfl) (K11 yB (yI (K11 yB ?_)))))))))))
   have hz := yT xs (fromG xs lo) (by omega); obtain ⟨x18, hx19⟩ := hz
   have hz := (p_xs).at (k := 3) (fun _ => rfl) hx19
   obtain ⟨g20, off21, hl22, hc23⟩ := hz
   refine K21 (Lq_ixaddr (k := .i64) v_xs (fromG xs lo) _ g20 off21 xJ hl22 (by omega)) (K11 yB (yS (.pointer (some ⟨g20, (off21 + (fromG xs lo) * 3), none⟩)) (fun _ => by kernel_rfl) (K11 yB (K13 (yY g20 (off21 + (fromG xs lo) * 3) (.int .i32 x18.1)) (fun _ => by kernel_rfl) (hc23 0 _ rfl) (K11 yB (yS (.pointer (some ⟨b1, 1, none⟩)) (fun _ => by kernel_rfl) (K11 yB (K13 (yY b1 1 (.int .i32 hi)) (fun _ => by kernel_rfl) (zM o_x3 rfl) (K11 yB (K22 (Lq_cmp .i32 x18.1 hi (x18.1 ≤ hi) rfl (cmp_le x18.1 hi)) ?_ ?_))))))))))
   ·intro h24
    replace h24 : x18.1 ≤ hi := by omega
    refine K11 xT (xF ?_)
    intro w25 hB26
    replace hb := hb.trans (hB26.mono hs)
    replace hs := Nat.le_trans hs (hB26.size)
    replace o_m := zB o_m hB26
    replace o_x4 := zB o_x4 hB26
    refine zA (K11 zS (zF (K21 (W_held 28) ?_)))
    intro w27 hB28
    replace hb := hb.trans (hB28.mono hs)
    replace hs := Nat.le_trans hs (hB28.size)
    replace o_m := zB o_m hB28
    replace o_x4 := zB o_x4 hB28
    refine ⟨fun w2 => Ch (fun k => k = b4) w27 w2, ?_⟩
    have hS29 : Ch (fun k => k = b4) w27 w27 := Ch.refl _ _
    refine K35 (xA 0 (.pointer (some ⟨b_m, 0, none⟩)) rfl) (by repeat first | exact zR | exact zK | apply zC | apply zG) hS29 (by kernel_rfl) (fun _ _ => by kernel_rfl) ?_
    refine K35 (xA 1 (.pointer (some ⟨b_m, 0, none⟩)) rfl) (by repeat first | exact zR | exact zK | apply zC | apply zG) hS29 (by kernel_rfl) (fun _ _ => by kernel_rfl) ?_
    refine K35 (xA 2 (.pointer (some ⟨b_m, 0, none⟩)) rfl) (by repeat first | exact zR | exact zK | apply zC | apply zG) hS29 (by kernel_rfl) (fun _ _ => by kernel_rfl) ?_
    refine K35 (xA 3 v_xs rfl) (by repeat first | exact zR | exact zK | apply zC | apply zG) hS29 (by kernel_rfl) (K12 (R_load b_m 0 v_xs) (fun _ => by kernel_rfl) (fun w2 h2 => zM (yG o_m h2 (zT o_m o_x4 (by simp))) rfl)) ?_
    refine K35 (xA 4 (.int .i64 (((fromG xs lo) : Nat) : Int)) rfl) (by repeat first | exact zR | exact zK | apply zC | apply zG) hS29 (by kernel_rfl) (fun _ _ => by kernel_rfl) ?_
    have hz := (in_p_xs).at (k := 3) (fun _ => rfl) hx19
    obtain ⟨g32, off33, hl34, hc35⟩ := hz
    refine K35 (xA 5 (.pointer (some ⟨g32, (off33 + (fromG xs lo) * 3), none⟩)) rfl) (by repeat first | exact zR | exact zK | apply zC | apply zG) hS29 (by kernel_rfl) (K20 (R_ixaddr (k := .i64) v_xs (fromG xs lo) _ g32 off33 xJ hl34 (by omega))) ?_
    refine K35 (xA 6 (.pointer (some ⟨g32, (off33 + (fromG xs lo) * 3), none⟩)) rfl) (by repeat first | exact zR | exact zK | apply zC | apply zG) hS29 (by kernel_rfl) (fun _ _ => by kernel_rfl) ?_
    refine K35 (xA 7 (.int .i32 x18.1) rfl) (by repeat first | exact zR | exact zK | apply zC | apply zG) hS29 (by kernel_rfl) (K12 (R_load g32 (off33 + (fromG xs lo) * 3) (.int .i32 x18.1)) (fun _ => by kernel_rfl) (fun w2 h2 => cell_old (hc35 0 _ rfl) hb h2 (fun k e => e ▸ g_x4))) ?_
    refine K35 (xA 8 (.pointer (some ⟨b_m, 0, none⟩)) rfl) (by repeat first | exact zR | exact zK | apply zC | apply zG) hS29 (by kernel_rfl) (fun _ _ => by kernel_rfl) ?_
    refine K35 (xA 9 (.pointer (some ⟨b_m, 0, none⟩)) rfl) (by repeat first | exact zR | exact zK | apply zC | apply zG) hS29 (by kernel_rfl) (fun _ _ => by kernel_rfl) ?_
    refine K35 (xA 10 (.pointer (some ⟨b_m, 0, none⟩)) rfl) (by repeat first | exact zR | exact zK | apply zC | apply zG) hS29 (by kernel_rfl) (fun _ _ => by kernel_rfl) ?_
    refine K35 (xA 11 v_xs rfl) (by repeat first | exact zR | exact zK | apply zC | apply zG) hS29 (by kernel_rfl) (K12 (R_load b_m 0 v_xs) (fun _ => by kernel_rfl) (fun w2 h2 => zM (yG o_m h2 (zT o_m o_x4 (by simp))) rfl)) ?_
    refine K35 (xA 12 (.int .i64 (((fromG xs lo) : Nat) : Int)) rfl) (by repeat first | exact zR | exact zK | apply zC | apply zG) hS29 (by kernel_rfl) (fun _ _ => by kernel_rfl) ?_
    have hz := (in_p_xs).at (k := 3) (fun _ => rfl) hx19
    obtain ⟨g38, off39, hl40, hc41⟩ := hz
    refine K35 (xA 13 (.pointer (some ⟨g38, (off39 + (fromG xs lo) * 3), none⟩)) rfl) (by repeat first | exact zR | exact zK | apply zC | apply zG) hS29 (by kernel_rfl) (K20 (R_ixaddr (k := .i64) v_xs (fromG xs lo) _ g38 off39 xJ hl40 (by omega))) ?_
    refine K35 (xA 14 (.pointer (some ⟨g38, ((off39 + (fromG xs lo) * 3) + 1), none⟩)) rfl) (by repeat first | exact zR | exact zK | apply zC | apply zG) hS29 (by kernel_rfl) (fun _ _ => by kernel_rfl) ?_
    refine K35 (xA 15 (.int .i32 x18.2.1) rfl) (by repeat first | exact zR | exact zK | apply zC | apply zG) hS29 (by kernel_rfl) (K12 (R_load g38 ((off39 + (fromG xs lo) * 3) + 1) (.int .i32 x18.2.1)) (fun _ => by kernel_rfl) (fun w2 h2 => cell_old (hc41 1 _ rfl) hb h2 (fun k e => e ▸ g_x4))) ?_
    refine K35 (xA 16 (Value.agg #[(.int .i32 x18.1), (.int .i32 x18.2.1)]) rfl) (by repeat first | exact zR | exact zK | apply zC | apply zG) hS29 (by kernel_rfl) (fun _ _ => by kernel_rfl) ?_
    refine K35 (xA 17 (.pointer (some ⟨b_m, 0, none⟩)) rfl) (by repeat first | exact zR | exact zK | apply zC | apply zG) hS29 (by kernel_rfl) (fun _ _ => by kernel_rfl) ?_
    refine K35 (xA 18 (.pointer (some ⟨b_m, 0, none⟩)) rfl) (by repeat first | exact zR | exact zK | apply zC | apply zG) hS29 (by kernel_rfl) (fun _ _ => by kernel_rfl) ?_
    refine K35 (xA 19 (.pointer (some ⟨b_m, 0, none⟩)) rfl) (by repeat first | exact zR | exact zK | apply zC | apply zG) hS29 (by kernel_rfl) (fun _ _ => by kernel_rfl) ?_
    refine K35 (xA 20 v_xs rfl) (by repeat first | exact zR | exact zK | apply zC | apply zG) hS29 (by kernel_rfl) (K12 (R_load b_m 0 v_xs) (fun _ => by kernel_rfl) (fun w2 h2 => zM (yG o_m h2 (zT o_m o_x4 (by simp))) rfl)) ?_
    refine K35 (xA 21 (.int .i64 (((fromG xs lo) : Nat) : Int)) rfl) (by repeat first | exact zR | exact zK | apply zC | apply zG) hS29 (by kernel_rfl) (fun _ _ => by kernel_rfl) ?_
    have hz := (in_p_xs).at (k := 3) (fun _ => rfl) hx19
    obtain ⟨g44, off45, hl46, hc47⟩ := hz
    refine K35 (xA 22 (.pointer (some ⟨g44, (off45 + (fromG xs lo) * 3), none⟩)) rfl) (by repeat first | exact zR | exact zK | apply zC | apply zG) hS29 (by kernel_rfl) (K20 (R_ixaddr (k := .i64) v_xs (fromG xs lo) _ g44 off45 xJ hl46 (by omega))) ?_
    refine K35 (xA 23 (.pointer (some ⟨g44, ((off45 + (fromG xs lo) * 3) + 2), none⟩)) rfl) (by repeat first | exact zR | exact zK | apply zC | apply zG) hS29 (by kernel_rfl) (fun _ _ => by kernel_rfl) ?_
    refine K35 (xA 24 (.int .i64 x18.2.2) rfl) (by repeat first | exact zR | exact zK | apply zC | apply zG) hS29 (by kernel_rfl) (K12 (R_load g44 ((off45 + (fromG xs lo) * 3) + 2) (.int .i64 x18.2.2)) (fun _ => by kernel_rfl) (fun w2 h2 => cell_old (hc47 2 _ rfl) hb h2 (fun k e => e ▸ g_x4))) ?_
    refine K36 (H_storeA 25 b4 0 [(.int .i32 x18.1), (.int .i32 x18.2.1)] [(.int .i32 0), (.int .i32 0)] [(.int .i32 x18.1), (.int .i32 x18.2.1)] 32 rfl) rfl (by kernel_rfl) o_x4 (by kernel_rfl) rfl ?_
    intro w48 hW49
    refine ⟨hS29.trans (Ch.of_wrote hW49), ?_⟩
    replace hb := hb.trans (hW49.below g_x4)
    replace hs := Nat.le_trans hs (Nat.le_of_eq hW49.size.symm)
    replace o_x4 := hW49.here
    have hS50 := hS29.trans (Ch.of_wrote hW49)
    refine K35 (xA 26 (.int .i64 x18.2.2) rfl) (by repeat first | exact zR | exact zK | apply zC | apply zG) hS50 (by kernel_rfl) (fun _ _ => by kernel_rfl) ?_
    refine K35 (xA 27 (.bool true) rfl) (by repeat first | exact zR | exact zK | apply zC | apply zG) hS50 (by kernel_rfl) (fun _ _ => by kernel_rfl) ?_
    refine K11 H_done ?_
    refine zA (zX (zH ?_))
    refine zO [.cell 4 32, .tmp 5, .tmp 6] [(Value.agg #[(.int .i32 x18.1), (.int .i32 x18.2.1)]), (.int .i64 x18.2.2), (.bool true)] rfl rfl ⟨⟨⟨b4, 0, none⟩, by kernel_rfl, xN [(.int .i32 x18.1), (.int .i32 x18.2.1)] (by kernel_rfl) (by kernel_rfl) (xH o_x4)⟩, by kernel_rfl, by kernel_rfl, trivial⟩ ?_
    have hE : ((Value.agg #[(.int .i32 x18.1), (.int .i32 x18.2.1)]) = (Value.agg #[(.int .i32 ((metV 0 (metG xs lo hi)).1)), (.int .i32 ((metV 0 (metG xs lo hi)).2.1))])) ∧ ((x18.2.2 : Int) = (metV 0 (metG xs lo hi)).2.2.1) ∧ (true = (metV 0 (metG xs lo hi)).2.2.2) := ⟨(by (rw [metG_yes (by assumption) (by assumption) (by omega)]; rfl)), (by (rw [metG_yes (by assumption) (by assumption) (by omega)]; rfl)), (by (rw [metG_yes (by assumption) (by assumption) (by omega)]; rfl))⟩
    exact ⟨tup3 (hE.1) (congrArg (Value.int .i64) hE.2.1) (congrArg Value.bool hE.2.2), hb⟩
   ·intro h51
    replace h51 : hi < x18.1 := by omega
    refine K11 xT (xF ?_)
    intro w52 hB53
    replace hb := hb.trans (hB53.mono hs)
    replace hs := Nat.le_trans hs (hB53.size)
    replace o_x4 := zB o_x4 hB53
    refine zA (K11 zN (zV (zA (zF (zD (K21 (zQ (Value.agg #[(.int .i32 0), (.int .i32 0)])) (zI (K26 (yX b4 0 [(.int .i32 0), (.int .i32 0)] [(.int .i32 0), (.int .i32 0)] [(.int .i32 0), (.int .i32 0)] 32) rfl (by kernel_rfl) o_x4 (by kernel_rfl) rfl ?_))))))))
    intro w54 hW55
    replace hb := hb.trans (hW55.below g_x4)
    replace hs := Nat.le_trans hs (Nat.le_of_eq hW55.size.symm)
    replace o_x4 := hW55.here
    refine zJ (zJ (zE (zA (zX ?_))))
    refine zO [.cell 4 32, .tmp 5, .tmp 6] [(Value.agg #[(.int .i32 0), (.int .i32 0)]), (.int .i64 0), (.bool false)] rfl rfl ⟨⟨⟨b4, 0, none⟩, by kernel_rfl, xN [(.int .i32 0), (.int .i32 0)] (by kernel_rfl) (by kernel_rfl) (xH o_x4)⟩, by kernel_rfl, by kernel_rfl, trivial⟩ ?_
    have hE : ((Value.agg #[(.int .i32 0), (.int .i32 0)]) = (Value.agg #[(.int .i32 ((metV 0 (metG xs lo hi)).1)), (.int .i32 ((metV 0 (metG xs lo hi)).2.1))])) ∧ ((0 : Int) = (metV 0 (metG xs lo hi)).2.2.1) ∧ (false = (metV 0 (metG xs lo hi)).2.2.2) := ⟨(by (rw [metG_no (by assumption) (by assumption) (by omega)]; rfl)), (by (rw [metG_no (by assumption) (by assumption) (by omega)]; rfl)), (by (rw [metG_no (by assumption) (by assumption) (by omega)]; rfl))⟩
    exact ⟨tup3 (hE.1) (congrArg (Value.int .i64) hE.2.1) (congrArg Value.bool hE.2.2), hb⟩
  ·intro h56
   replace h56 : (xs).length ≤ (fromG xs lo) := by omega
   refine yI (K11 zW (K11 zW (K11 zW (K11 zW (K11 zW (K11 zW (K11 zW (K11 zW (K11 zW (K11 zW (K11 zW (K11 Lq_pickF (xF ?_)))))))))))))
   intro w57 hB58
   replace hb := hb.trans (hB58.mono hs)
   replace hs := Nat.le_trans hs (hB58.size)
   replace o_x4 := zB o_x4 hB58
   refine zA (K11 zN (zV (zA (zF (zD (K21 (zQ (Value.agg #[(.int .i32 0), (.int .i32 0)])) (zI (K26 (yX b4 0 [(.int .i32 0), (.int .i32 0)] [(.int .i32 0), (.int .i32 0)] [(.int .i32 0), (.int .i32 0)] 32) rfl (by kernel_rfl) o_x4 (by kernel_rfl) rfl ?_))))))))
   intro w59 hW60
   replace hb := hb.trans (hW60.below g_x4)
   replace hs := Nat.le_trans hs (Nat.le_of_eq hW60.size.symm)
   replace o_x4 := hW60.here
   refine zJ (zJ (zE (zA (zX ?_))))
   refine zO [.cell 4 32, .tmp 5, .tmp 6] [(Value.agg #[(.int .i32 0), (.int .i32 0)]), (.int .i64 0), (.bool false)] rfl rfl ⟨⟨⟨b4, 0, none⟩, by kernel_rfl, xN [(.int .i32 0), (.int .i32 0)] (by kernel_rfl) (by kernel_rfl) (xH o_x4)⟩, by kernel_rfl, by kernel_rfl, trivial⟩ ?_
   have hE : ((Value.agg #[(.int .i32 0), (.int .i32 0)]) = (Value.agg #[(.int .i32 ((metV 0 (metG xs lo hi)).1)), (.int .i32 ((metV 0 (metG xs lo hi)).2.1))])) ∧ ((0 : Int) = (metV 0 (metG xs lo hi)).2.2.1) ∧ (false = (metV 0 (metG xs lo hi)).2.2.2) := ⟨(by (rw [metG_end (by assumption) (by omega)]; rfl)), (by (rw [metG_end (by assumption) (by omega)]; rfl)), (by (rw [metG_end (by assumption) (by omega)]; rfl))⟩
   exact ⟨tup3 (hE.1) (congrArg (Value.int .i64) hE.2.1) (congrArg Value.bool hE.2.2), hb⟩
 ·intro h61
  refine K11 zY (K11 (L_not false) (K11 yV (zE (zA (K11 zS (zF (zD (K21 (zQ (Value.agg #[(.int .i32 0), (.int .i32 0)])) (zI (K26 (yX b4 0 [(.int .i32 0), (.int .i32 0)] [(.int .i32 0), (.int .i32 0)] [(.int .i32 0), (.int .i32 0)] 32) rfl (by kernel_rfl) o_x4 (by kernel_rfl) rfl ?_))))))))))
  intro w62 hW63
  replace hb := hb.trans (hW63.below g_x4)
  replace hs := Nat.le_trans hs (Nat.le_of_eq hW63.size.symm)
  replace o_x4 := hW63.here
  refine zJ (zJ (zE (zA (zX (zH ?_)))))
  refine zO [.cell 4 32, .tmp 5, .tmp 6] [(Value.agg #[(.int .i32 0), (.int .i32 0)]), (.int .i64 0), (.bool false)] rfl rfl ⟨⟨⟨b4, 0, none⟩, by kernel_rfl, xN [(.int .i32 0), (.int .i32 0)] (by kernel_rfl) (by kernel_rfl) (xH o_x4)⟩, by kernel_rfl, by kernel_rfl, trivial⟩ ?_
  have hE : ((Value.agg #[(.int .i32 0), (.int .i32 0)]) = (Value.agg #[(.int .i32 ((metV 0 (metG xs lo hi)).1)), (.int .i32 ((metV 0 (metG xs lo hi)).2.1))])) ∧ ((0 : Int) = (metV 0 (metG xs lo hi)).2.2.1) ∧ (false = (metV 0 (metG xs lo hi)).2.2.2) := ⟨(by (rw [metG_may (by assumption)]; rfl)), (by (rw [metG_may (by assumption)]; rfl)), (by (rw [metG_may (by assumption)]; rfl))⟩
  exact ⟨tup3 (hE.1) (congrArg (Value.int .i64) hE.2.1) (congrArg Value.bool hE.2.2), hb⟩
theorem c_insert_I (B_ : Nat) (v_s : Value) (s : List (Int × Int × Int)) (i : Nat) (v_vs : Value) (vs : List (Int × Int × Int)) (w : World) (hs0 : B_ ≤ w.heap.size) (p_s : Row w B_ 131 3 encSpanI v_s s) (p_vs : Row w 0 131 3 encSpanI v_vs vs) (ap_p_vs_p_s : Value.ownBlock v_vs = none ∨ Value.ownBlock v_vs ≠ Value.ownBlock v_s) (hi : i ≤ s.length) (hl : s.length ≤ 4194304) (hv : vs.length ≤ 4194304) :
  Calls Tryz.prog 153 #[v_s, (.int .i64 ((i : Nat) : Int)), v_vs] w (Ret fun v w' => ∃ q0 : Value, v = q0 ∧ Row w' B_ 131 3 encSpanI q0 (List.take i s ++ vs ++ List.drop i s) ∧ (∀ g, Value.ownBlock q0 = some g → w.heap.size ≤ g ∨ Value.ownBlock v_s = some g) ∧ Ch (fun k => Value.ownBlock v_s = some k) w w') := by
 refine K11 (enter (args := [v_s, (.int .i64 ((i : Nat) : Int)), v_vs]) Tryz.func153 rfl (by kernel_rfl : _ = 95)) ?_
 have hb := Below.refl B_ w
 have hs : B_ ≤ (World.heap w).size := hs0
 have hc := Ch.refl (fun k => Value.ownBlock v_s = some k) w
 have dr_p_s : ∀ g, Value.ownBlock v_s = some g → (World.heap w).size ≤ g ∨ (fun k => Value.ownBlock v_s = some k) g := fun g h => .inr h
 refine zF (zD (zJ (zE (zA (zF (zD (zI (zI (K12 (L_slfrom xJ v_s ((s).length) i (p_s.shape) (by omega)) ⟨.i64, by kernel_rfl⟩ ?_)))))))))
 intro vt1 hT2
 refine zE (zA (zF (zD (zI (K11 (L_len 116 131 (vs).length v_vs rfl Tryz.underlying116 (p_vs.rd).len) (zJ (zE (zA (zF (zF (zD (zI (K22 (yD .i64 (((vs).length : Nat) : Int) ((0 : Nat) : Int) ((vs).length = 0) rfl (cmpN_eq ((vs).length) 0)) ?_ ?_)))))))))))))
 ·intro h3
  replace h3 : (vs).length = 0 := by omega
  refine zE (zA (K11 zS (zF (zD (zI (zJ (zE (zA (zX (zH ?_))))))))))
  refine zO [.tmp 6] [v_s] rfl rfl ⟨by kernel_rfl, trivial⟩ ?_
  have e0 : s = (List.take i s ++ vs ++ List.drop i s) := by exact gep_same rfl (by omega)
  exact ⟨_, rfl, p_s.cast e0, dr_p_s, hc⟩
 ·intro h4
  replace h4 : (vs).length ≠ 0 := by omega
  refine zE (zA (K11 zN (zV (zA (zF (zD (zI (K11 (L_len 116 131 (s).length v_s rfl Tryz.underlying116 (p_s.rd).len) (zJ (zE (zA (zF (zF (zD (zI (zI (K22 (yD .i64 ((i : Nat) : Int) (((s).length : Nat) : Int) (i = (s).length) rfl (cmpN_eq i ((s).length))) ?_ ?_)))))))))))))))))
  ·intro h5
   replace h5 : i = (s).length := by omega
   refine zE (zA (K11 zS (zF (zD (zI (zI (K31 (L_appAll xJ B_ v_s v_vs s vs hs p_s p_vs.rd (by omega) (fun _ => rfl) (fun _ => rfl)) ?_)))))))
   intro v6 w7 hr8 hg9 how10 
   have dr2 := dr_app (D := (fun k => Value.ownBlock v_s = some k)) how10 (by have h0 := hc.size; omega : (World.heap w).size ≤ (World.heap w).size) dr_p_s
   have nap_p_vs := ap_app2 p_vs how10 ap_p_vs_p_s
   replace hb := hb.grown hg9 hs (fun k hk => (World.ownsRow.lt p_s k hk).1)
   replace hc := hc.trans2 (Ch.of_grown hg9) (fun k e => dr_p_s k e)
   replace hs := Nat.le_trans hs (hg9.size)
   replace p_s := hr8
   have dr_p_s := dr2; clear dr2
   refine zJ (zE (zA (zX (zH ?_))))
   refine zO [.tmp 6] [v6] rfl rfl ⟨by kernel_rfl, trivial⟩ ?_
   have e0 : (s ++ vs) = (List.take i s ++ vs ++ List.drop i s) := by exact gep_end (by omega)
   exact ⟨_, rfl, p_s.cast e0, dr_p_s, hc⟩
  ·intro h11
   replace h11 : i ≠ (s).length := by omega
   refine zE (zA (K11 zN (zV (zA (zF (zF (zD (zI (zI (K21 (xD ((s).length) ((vs).length) (by omega)) (zI ?_)))))))))))
   have hk0 : ∀ x, (encSpanI x).length = 3 := fun _ => rfl
   have hz := Row.raw p_s hk0 (by omega)
   obtain ⟨g12, cap13, cur14, hv15, hnc16, hR17, hA18⟩ := hz
   have sh_p_s := p_s.shape
   have a0_19 := (at_mid hk0 hA18 i (by omega)).1
   have a2_20 := xO (at_mid hk0 hA18 i (by omega)).2 (Nat.zero_add _)
   refine K11 (L_cap 116 131 cap13 v_s rfl Tryz.underlying116 ⟨_, _, hv15⟩) (K22 (yD .i64 ((((s).length + (vs).length) : Nat) : Int) ((cap13 : Nat) : Int) (cap13 < ((s).length + (vs).length)) rfl (cmpN_gt ((s).length + (vs).length) cap13)) ?_ ?_)
   ·intro h21
    replace h21 : cap13 < ((s).length + (vs).length) := by omega
    refine zE (zA (K11 zS (zF (zD (zI (zI (K12 (L_sltoR xJ v_s s i p_s (fun _ => rfl) (by omega)) ⟨.i64, by kernel_rfl⟩ ?_)))))))
    intro vp22 r_vp23 hsc24
    have dr_r_vp23 : ∀ g, Value.ownBlock vp22 = some g → (World.heap w).size ≤ g ∨ (fun k => Value.ownBlock v_s = some k) g := by rw [hsc24.own]; exact dr_p_s
    have ap_p_vs_r_vp23 := (by rw [hsc24.own]; exact ap_p_vs_p_s : Value.ownBlock v_vs = none ∨ Value.ownBlock v_vs ≠ Value.ownBlock vp22); have ap_r_vp23_p_vs := ap_comm ap_p_vs_r_vp23
    refine zI (zI (K21 (xD ((s).length) ((vs).length) (by omega)) (zI (K21 (L_subN ((s).length + (vs).length) i (by omega) (by omega)) ?_))))
    have hsv := samecap_val hsc24 hv15 r_vp23
    refine K31 (L_appZeros (kq := .i64) (kn := .i64) xJ Tryz.underlying3 ((0, 0, 0) : SpI) (by kernel_rfl) B_ vp22 (List.take i s) (((s).length + (vs).length) - i) cap13 hs r_vp23 (fun _ => rfl) hsv.1 (by omega) (by (simp only [List.length_append, List.length_take, List.length_drop, List.length_replicate, List.length_cons, List.length_nil] <;> omega)) (by omega) hsv.2) ?_
    intro v25 w26 hr27 hg28 how29 
    have dr2 := dr_app (D := (fun k => Value.ownBlock v_s = some k)) how29 (by have h0 := hc.size; omega : (World.heap w).size ≤ (World.heap w).size) (dr_nil _)
    have zne_p_s := grow_ne hR17 (zer_new hr27 how29 (by (simp only [List.length_append, List.length_take, List.length_drop, List.length_replicate, List.length_cons, List.length_nil] <;> omega)))
    replace hR17 := Raw.grown hR17 hg28 (by simp [Value.ownBlock])
    have nap_p_s := ap_app2 p_s how29 (ap_nil _)
    have nap_p_vs := ap_app2 p_vs how29 (ap_nil _)
    have nap_r_vp23 := ap_app2 r_vp23 how29 (ap_nil _)
    replace hb := hb.grown hg28 hs (fun k hk => by simp [Value.ownBlock] at hk)
    replace hc := hc.trans2 (Ch.of_grown hg28) (fun k e => by simp [Value.ownBlock] at e)
    replace hs := Nat.le_trans hs (hg28.size)
    have p_vs := p_vs.grown hg28 (by cases h : Value.ownBlock _ <;> simp [Value.ownBlock])
    have r_z40 := hr27
    have dr_r_z40 := dr2; clear dr2
    have hk0 : ∀ x, (encSpanI x).length = 3 := fun _ => rfl
    have hz := Row.raw r_z40 hk0 (by (simp only [List.length_append, List.length_take, List.length_drop, List.length_replicate, List.length_cons, List.length_nil] <;> omega))
    obtain ⟨g30, cap31, cur32, hv33, hnc34, hR35, hA36⟩ := hz
    have sh_r_z40 := r_z40.shape
    have hna_r_z40 := hnc34; simp only [List.length_append, List.length_take, List.length_replicate] at hna_r_z40
    have a0_37 := (at_split hk0 hA36).1
    have rne_r_z40_p_s : g30 ≠ g12 := fun e => zne_p_s (by rw [yO hv33, e])
    have rne_p_s_r_z40 := rne_r_z40_p_s.symm
    refine zJ (zE (zA (zF (zD (zI (zI (K16 (L_slRaw xJ v25 g30 0 ((((List.take i s) ++ (List.replicate (((s).length + (vs).length) - i) ((0, 0, 0) : SpI)))).length) cap31 i ((((List.take i s) ++ (List.replicate (((s).length + (vs).length) - i) ((0, 0, 0) : SpI)))).length) (by rw [Nat.zero_mul]; exact hv33)) ⟨.i64, by kernel_rfl⟩ rfl (by (simp only [List.length_append, List.length_take, List.length_drop, List.length_replicate, List.length_cons, List.length_nil] <;> omega)) (by omega) (by omega) (zI (K23 (L_copyRd (a := (0 + i)) (p := ((((List.take i s) ++ (List.replicate (((s).length + (vs).length) - i) ((0, 0, 0) : SpI)))).length - i)) (c1 := (cap31 - i)) xJ v_vs vs hR35 p_vs.rd hk0 (fun _ => rfl)) (by (simp only [List.length_append, List.length_take, List.length_drop, List.length_replicate, List.length_cons, List.length_nil] <;> omega)) (by omega) ?_)))))))))
    intro w38 hR39 hg40
    have a0_41 := at_lo (a := (0 + i)) (cs := List.flatMap encSpanI vs) a0_37 (by (simp only [List.length_append, List.length_take, List.length_drop, List.length_replicate, List.length_cons, List.length_nil] <;> omega)) (Raw.le hR35 (by omega))
    have b_42 := at_put (a := (0 + i)) (ys := vs) hk0 (Raw.le2 hR35 (by omega))
    have hg2 : World.grownBy w26 w38 (Value.ownBlock v25) := by rw [yO hv33]; exact hg40
    replace hb := hb.grown hg2 hs (fun k hk => by rw [yO hv33] at hk; cases hk; exact hR35.base)
    replace hc := hc.trans2 (Ch.of_grown hg2) (fun k e => dr_r_z40 k e)
    replace hs := Nat.le_trans hs hg2.size
    replace hR17 := hR17.grown hg2 (by rw [yO hv33]; exact fun e => rne_r_z40_p_s (Option.some.inj e))
    clear hg2
    refine zE (zA (zF (W_pre 8 9 1 (by kernel_rfl) (by kernel_rfl) (by kernel_rfl) (by kernel_rfl) (by kernel_rfl) (by kernel_rfl) (by kernel_rfl) (yI (yI (yI (K21 (Lq_addN i ((vs).length) (by omega)) (K16 (Lq_slRaw xJ v25 g30 0 ((((List.take i s) ++ (List.replicate (((s).length + (vs).length) - i) ((0, 0, 0) : SpI)))).length) cap31 (i + (vs).length) ((((List.take i s) ++ (List.replicate (((s).length + (vs).length) - i) ((0, 0, 0) : SpI)))).length) (by rw [Nat.zero_mul]; exact hv33)) ⟨.i64, by kernel_rfl⟩ rfl (by (simp only [List.length_append, List.length_take, List.length_drop, List.length_replicate, List.length_cons, List.length_nil] <;> omega)) (by omega) (by omega) (yI (yI (K16 (Lq_slRaw xJ v_s g12 0 ((s).length) cap13 i ((s).length) (by rw [Nat.zero_mul]; exact hv15)) ⟨.i64, by kernel_rfl⟩ rfl (by omega) (by omega) (by omega) (xF ?_))))))))))))
    intro w43 hB44
    replace hb := hb.trans (hB44.mono hs)
    replace hc := hc.trans2 (Ch.of_below hB44) (fun _ h => h.elim)
    replace hs := Nat.le_trans hs (hB44.size)
    replace hR17 := Raw.below hR17 hB44
    replace hR39 := Raw.below hR39 hB44
    refine K11 (yJ 8) ?_
    refine yZ 8 rfl ?_ rfl
    refine K23 (L_copyRd (a := (0 + (i + (vs).length))) (p := ((((List.take i s) ++ (List.replicate (((s).length + (vs).length) - i) ((0, 0, 0) : SpI)))).length - (i + (vs).length))) (c1 := (cap31 - (i + (vs).length))) xJ (.slice (some ⟨g12, (0 + i) * 3, none⟩) ((s).length - i) (cap13 - i)) (List.drop i s) hR39 (at_rd hR17 hk0 (xO a2_20 (by omega)) (by (simp only [List.length_append, List.length_take, List.length_drop, List.length_replicate, List.length_cons, List.length_nil] <;> omega))) hk0 (fun _ => rfl)) (by (simp only [List.length_append, List.length_take, List.length_drop, List.length_replicate, List.length_cons, List.length_nil] <;> omega)) (by (simp only [List.length_append, List.length_take, List.length_drop, List.length_replicate, List.length_cons, List.length_nil] <;> omega)) ?_
    intro w45 hR46 hg47
    have a0_48 := at_lo (a := (0 + (i + (vs).length))) (cs := List.flatMap encSpanI (List.drop i s)) a0_41 (by (simp only [List.length_append, List.length_take, List.length_drop, List.length_replicate, List.length_cons, List.length_nil] <;> omega)) (Raw.le hR39 (by omega))
    have b_49 := at_lo (a := (0 + (i + (vs).length))) (cs := List.flatMap encSpanI (List.drop i s)) b_42 (by omega) (Raw.le hR39 (by omega))
    have c_50 := at_put (a := (0 + (i + (vs).length))) (ys := (List.drop i s)) hk0 (Raw.le2 hR39 (by (simp only [List.length_append, List.length_take, List.length_drop, List.length_replicate, List.length_cons, List.length_nil] <;> omega)))
    have hg2 : World.grownBy w43 w45 (Value.ownBlock v25) := by rw [yO hv33]; exact hg47
    replace hb := hb.grown hg2 hs (fun k hk => by rw [yO hv33] at hk; cases hk; exact hR39.base)
    replace hc := hc.trans2 (Ch.of_grown hg2) (fun k e => dr_r_z40 k e)
    replace hs := Nat.le_trans hs hg2.size
    replace hR17 := hR17.grown hg2 (by rw [yO hv33]; exact fun e => rne_r_z40_p_s (Option.some.inj e))
    clear hg2
    refine zE ?_
    refine ⟨rfl, ?_⟩
    refine K11 yQ ?_
    refine zA (zF (zD (zI (zJ (zE (zA (zX (zH ?_))))))))
    refine zO [.tmp 6] [v25] rfl rfl ⟨by kernel_rfl, trivial⟩ ?_
    have hjn := at_join hk0 (at_join hk0 a0_48 (xO b_49 (by (simp only [List.length_append, List.length_take, List.length_drop, List.length_replicate, List.length_cons, List.length_nil] <;> omega)))) (xO c_50 (by (simp only [List.length_append, List.length_take, List.length_drop, List.length_replicate, List.length_cons, List.length_nil] <;> omega)))
    have hrr := Raw.row hR46 hk0 (N := ((((List.take i s) ++ (List.replicate (((s).length + (vs).length) - i) ((0, 0, 0) : SpI)))).length)) (by (simp only [List.length_append, List.length_take, List.length_drop, List.length_replicate, List.length_cons, List.length_nil] <;> omega)) (by (simp only [List.length_append, List.length_take, List.length_drop, List.length_replicate, List.length_cons, List.length_nil] <;> omega)) hjn
    exact ⟨_, hv33, hrr, (fun g e => dr_r_z40 g (by rw [yO hv33]; exact e)), hc⟩
   ·intro h51
    replace h51 : ((s).length + (vs).length) ≤ cap13 := by omega
    refine zE (zA (K11 zN (zV (zA (zF (zD (zI (zI (zI (K21 (xD ((s).length) ((vs).length) (by omega)) (K13 (L_slTot xJ v_s g12 ((s).length) cap13 ((s).length + (vs).length) hv15) ⟨.i64, by kernel_rfl⟩ (by omega) (zJ (zE (zA (zF (zF (zD (zI (zI (zI (zI (K21 (xD i ((vs).length) (by omega)) (K16 (L_slRaw xJ (.slice (some ⟨g12, 0, none⟩) ((s).length + (vs).length) cap13) g12 0 ((s).length + (vs).length) cap13 (i + (vs).length) ((s).length + (vs).length) (by rw [Nat.zero_mul])) ⟨.i64, by kernel_rfl⟩ rfl (by omega) (by omega) (by omega) ?_)))))))))))))))))))))))
    have hk0 : ∀ x, (encSpanI x).length = 3 := fun _ => rfl
    have hz := Row.raw p_vs hk0 (by omega)
    obtain ⟨g52, cap53, cur54, hv55, hnc56, hR57, hA58⟩ := hz
    have sh_p_vs := p_vs.shape
    have rne_p_vs_p_s : g52 ≠ g12 := rne_of hv55 hv15 ap_p_vs_p_s
    have rne_p_s_p_vs := rne_p_vs_p_s.symm
    refine L_overlaps xJ (ga := g52) (gb := g12) (R := 4) Tryz.func154 (by kernel_rfl) (by kernel_rfl) (by kernel_rfl) (by kernel_rfl) 0 ((vs).length) cap53 ((0 + (i + (vs).length)) * 3) (((s).length + (vs).length) - (i + (vs).length)) (cap13 - (i + (vs).length)) hR57 hR17 rne_p_vs_p_s (by rw [hR17.size]; exact Nat.mul_pos (by omega) (by decide)) ((by kernel_rfl : _ = v_vs).trans hv55) (by kernel_rfl) (K11 (L_not false) (zE (zA (K11 zS (zF (W_pre 8 9 1 (by kernel_rfl) (by kernel_rfl) (by kernel_rfl) (by kernel_rfl) (by kernel_rfl) (by kernel_rfl) (by kernel_rfl) (yI (yI (yI (K21 (Lq_addN i ((vs).length) (by omega)) (K16 (Lq_slRaw xJ (.slice (some ⟨g12, 0, none⟩) ((s).length + (vs).length) cap13) g12 0 ((s).length + (vs).length) cap13 (i + (vs).length) ((s).length + (vs).length) (by rw [Nat.zero_mul])) ⟨.i64, by kernel_rfl⟩ rfl (by omega) (by omega) (by omega) (yI (yI (K16 (Lq_slRaw xJ (.slice (some ⟨g12, 0, none⟩) ((s).length + (vs).length) cap13) g12 0 ((s).length + (vs).length) cap13 i ((s).length + (vs).length) (by rw [Nat.zero_mul])) ⟨.i64, by kernel_rfl⟩ rfl (by omega) (by omega) (by omega) (xF ?_)))))))))))))))
    intro w59 hB60
    replace hb := hb.trans (hB60.mono hs)
    replace hc := hc.trans2 (Ch.of_below hB60) (fun _ h => h.elim)
    replace hs := Nat.le_trans hs (hB60.size)
    replace hR17 := Raw.below hR17 hB60
    replace hR57 := Raw.below hR57 hB60
    replace p_vs := p_vs.below hB60
    refine K11 (yJ 8) ?_
    refine yZ 8 rfl ?_ rfl
    refine K23 (L_copySelf (a := (0 + (i + (vs).length))) (p := (((s).length + (vs).length) - (i + (vs).length))) (c1 := (cap13 - (i + (vs).length))) (b := (0 + i)) (q := (((s).length + (vs).length) - i)) (c2 := (cap13 - i)) xJ (List.drop i s) hR17 (xO a2_20 (by omega)) hk0 (fun _ => rfl)) (by (simp only [List.length_append, List.length_take, List.length_drop, List.length_replicate, List.length_cons, List.length_nil] <;> omega)) (by (simp only [List.length_append, List.length_take, List.length_drop, List.length_replicate, List.length_cons, List.length_nil] <;> omega)) ?_
    intro w61 hR62 hg63
    have a0_64 := at_lo (a := (0 + (i + (vs).length))) (cs := List.flatMap encSpanI (List.drop i s)) a0_19 (by (simp only [List.length_append, List.length_take, List.length_drop, List.length_replicate, List.length_cons, List.length_nil] <;> omega)) (Raw.le hR17 (by omega))
    have c_65 := at_put (a := (0 + (i + (vs).length))) (ys := (List.drop i s)) hk0 (Raw.le2 hR17 (by (simp only [List.length_append, List.length_take, List.length_drop, List.length_replicate, List.length_cons, List.length_nil] <;> omega)))
    have hg2 : World.grownBy w59 w61 (Value.ownBlock v_s) := by rw [yO hv15]; exact hg63
    replace hb := hb.grown hg2 hs (fun k hk => by rw [yO hv15] at hk; cases hk; exact hR17.base)
    replace hc := hc.trans2 (Ch.of_grown hg2) (fun k e => dr_p_s k e)
    replace hs := Nat.le_trans hs hg2.size
    replace p_vs := p_vs.grown hg2 ap_p_vs_p_s
    replace hR57 := hR57.grown hg2 (by rw [yO hv15]; exact fun e => rne_p_s_p_vs (Option.some.inj e))
    clear hg2
    refine zE ?_
    refine ⟨rfl, ?_⟩
    refine K11 yQ ?_
    refine zA (zF (zD (zI (zI (K16 (L_slRaw xJ (.slice (some ⟨g12, 0, none⟩) ((s).length + (vs).length) cap13) g12 0 ((s).length + (vs).length) cap13 i ((s).length + (vs).length) (by rw [Nat.zero_mul])) ⟨.i64, by kernel_rfl⟩ rfl (by omega) (by omega) (by omega) (zI (K23 (L_copyRd (a := (0 + i)) (p := (((s).length + (vs).length) - i)) (c1 := (cap13 - i)) xJ v_vs vs hR62 p_vs.rd hk0 (fun _ => rfl)) (by omega) (by omega) ?_)))))))
    intro w66 hR67 hg68
    have a0_69 := at_lo (a := (0 + i)) (cs := List.flatMap encSpanI vs) a0_64 (by (simp only [List.length_append, List.length_take, List.length_drop, List.length_replicate, List.length_cons, List.length_nil] <;> omega)) (Raw.le hR62 (by omega))
    have c_70 := at_hi (a := (0 + i)) (ys := vs) hk0 c_65 (by omega) (Raw.le2 hR62 (by omega))
    have b_71 := at_put (a := (0 + i)) (ys := vs) hk0 (Raw.le2 hR62 (by omega))
    have hg2 : World.grownBy w61 w66 (Value.ownBlock v_s) := by rw [yO hv15]; exact hg68
    replace hb := hb.grown hg2 hs (fun k hk => by rw [yO hv15] at hk; cases hk; exact hR62.base)
    replace hc := hc.trans2 (Ch.of_grown hg2) (fun k e => dr_p_s k e)
    replace hs := Nat.le_trans hs hg2.size
    replace hR57 := hR57.grown hg2 (by rw [yO hv15]; exact fun e => rne_p_s_p_vs (Option.some.inj e))
    clear hg2
    refine zE (zA (zF (zD (zI (zJ (zE (zA (zX (zH ?_)))))))))
    refine zO [.tmp 6] [(.slice (some ⟨g12, 0, none⟩) ((s).length + (vs).length) cap13)] rfl rfl ⟨by kernel_rfl, trivial⟩ ?_
    have hjn := at_join hk0 (at_join hk0 a0_69 (xO b_71 (by (simp only [List.length_append, List.length_take, List.length_drop, List.length_replicate, List.length_cons, List.length_nil] <;> omega)))) (xO c_70 (by (simp only [List.length_append, List.length_take, List.length_drop, List.length_replicate, List.length_cons, List.length_nil] <;> omega)))
    have hrr := Raw.row hR67 hk0 (N := ((s).length + (vs).length)) (by (simp only [List.length_append, List.length_take, List.length_drop, List.length_replicate, List.length_cons, List.length_nil] <;> omega)) (by (simp only [List.length_append, List.length_take, List.length_drop, List.length_replicate, List.length_cons, List.length_nil] <;> omega)) hjn
    exact ⟨_, rfl, hrr, (fun g e => dr_p_s g (by rw [yO hv15]; exact e)), hc⟩
theorem c_replace_I (B_ : Nat) (v_s : Value) (s : List (Int × Int × Int)) (i : Nat) (j : Nat) (v_vs : Value) (vs : List (Int × Int × Int)) (w : World) (hs0 : B_ ≤ w.heap.size) (p_s : Row w B_ 131 3 encSpanI v_s s) (p_vs : Row w 0 131 3 encSpanI v_vs vs) (ap_p_vs_p_s : Value.ownBlock v_vs = none ∨ Value.ownBlock v_vs ≠ Value.ownBlock v_s) (hij : i ≤ j) (hj : j ≤ s.length) (hl : s.length ≤ 4194304) (hv : vs.length ≤ 4194304) :
  Calls Tryz.prog 135 #[v_s, (.int .i64 ((i : Nat) : Int)), (.int .i64 ((j : Nat) : Int)), v_vs] w (Ret fun v w' => ∃ q0 : Value, v = q0 ∧ Row w' B_ 131 3 encSpanI q0 (List.take i s ++ vs ++ List.drop j s) ∧ (∀ g, Value.ownBlock q0 = some g → w.heap.size ≤ g ∨ Value.ownBlock v_s = some g) ∧ Ch (fun k => Value.ownBlock v_s = some k) w w') := by
 refine K11 (enter (args := [v_s, (.int .i64 ((i : Nat) : Int)), (.int .i64 ((j : Nat) : Int)), v_vs]) Tryz.func135 rfl (by kernel_rfl : _ = 224)) ?_
 have hb := Below.refl B_ w
 have hs : B_ ≤ (World.heap w).size := hs0
 have hc := Ch.refl (fun k => Value.ownBlock v_s = some k) w
 have dr_p_s : ∀ g, Value.ownBlock v_s = some g → (World.heap w).size ≤ g ∨ (fun k => Value.ownBlock v_s = some k) g := fun g h => .inr h
 refine zF (zD (zJ (zE (zA (zF (zD (zI (zI (zI (K13 (L_slmid xJ v_s ((s).length) i j (p_s.shape) (by omega) (by omega)) ⟨.i64, by kernel_rfl⟩ ⟨.i64, by kernel_rfl⟩ ?_))))))))))
 intro vt1
 refine zE (zA (zF (zF (zD (zI (zI (K22 (yD .i64 ((i : Nat) : Int) ((j : Nat) : Int) (i = j) rfl (cmpN_eq i j)) ?_ ?_)))))))
 ·intro h2
  replace h2 : i = j := by omega
  refine zE (zA (K11 zS (zF (zD (zI (zI (zI (K22 (yA 153 [v_s, (.int .i64 ((i : Nat) : Int)), v_vs]) (c_insert_I B_ v_s s i v_vs vs _ hs p_s p_vs.mono0 ap_p_vs_p_s (by omega) (by omega) (by omega)) ?_))))))))
  rintro q3 w4 ⟨_, rfl, r_q3, dm5, hC6⟩
  have dr_r_q3 := dr_call hc dm5 dr_p_s
  replace hc := hc.trans2 hC6 (fun k e => dr_p_s k e)
  replace hb := hC6.below hb hs (fun k e => (World.ownsRow.lt p_s k e).1)
  replace hs := Nat.le_trans hs hC6.size
  refine zJ (zE (zA (zX (zH ?_))))
  refine zO [.tmp 8] [q3] rfl rfl ⟨by kernel_rfl, trivial⟩ ?_
  have e0 : (List.take i s ++ vs ++ List.drop i s) = (List.take i s ++ vs ++ List.drop j s) := by (subst j; rfl)
  exact ⟨_, rfl, r_q3.cast e0, dr_r_q3, hc⟩
 ·intro h7
  replace h7 : i ≠ j := by omega
  refine zE (zA (K11 zN (zV (zA (zF (zF (zD (zI (zI (K11 (L_len 116 131 (s).length v_s rfl Tryz.underlying116 (p_s.rd).len) (K22 (yD .i64 ((j : Nat) : Int) (((s).length : Nat) : Int) (j = (s).length) rfl (cmpN_eq j ((s).length))) ?_ ?_)))))))))))
  ·intro h8
   replace h8 : j = (s).length := by omega
   refine zE (zA (K11 zS (zF (zD (zI (zI (K12 (L_sltoR xJ v_s s i p_s (fun _ => rfl) (by omega)) ⟨.i64, by kernel_rfl⟩ ?_)))))))
   intro vp9 r_vp10 hsc11
   have dr_r_vp10 : ∀ g, Value.ownBlock vp9 = some g → (World.heap w).size ≤ g ∨ (fun k => Value.ownBlock v_s = some k) g := by rw [hsc11.own]; exact dr_p_s
   have ap_p_vs_r_vp10 := (by rw [hsc11.own]; exact ap_p_vs_p_s : Value.ownBlock v_vs = none ∨ Value.ownBlock v_vs ≠ Value.ownBlock vp9); have ap_r_vp10_p_vs := ap_comm ap_p_vs_r_vp10
   refine zI (K31 (L_appPre xJ B_ vp9 v_vs (List.take i s) vs hs r_vp10 p_vs.rd (by (simp only [List.length_append, List.length_take]; omega)) (fun _ => rfl) (fun _ => rfl)) ?_)
   have sh_p_s := p_s.shape
   intro v13 w14 hr15 hg16 how17 hcp18
   have room_p_s := room_app p_s hsc11 hr15 hcp18
   have dr2 := dr_app (D := (fun k => Value.ownBlock v_s = some k)) how17 (by have h0 := hc.size; omega : (World.heap w).size ≤ (World.heap w).size) dr_r_vp10
   have nap_p_vs := ap_app2 p_vs how17 ap_p_vs_r_vp10
   replace hb := hb.grown hg16 hs (fun k hk => (World.ownsRow.lt r_vp10 k hk).1)
   replace hc := hc.trans2 (Ch.of_grown hg16) (fun k e => dr_r_vp10 k e)
   replace hs := Nat.le_trans hs (hg16.size)
   replace r_vp10 := hr15
   have dr_r_vp10 := dr2; clear dr2
   refine zJ (zE (zA (zF (zF (zD (zI (K11 (L_len 116 131 (((List.take i s) ++ vs)).length v13 rfl Tryz.underlying116 (r_vp10.rd).len) (zI (K11 (L_len 116 131 ((s).length) v_s rfl Tryz.underlying116 sh_p_s.len) (K22 (yD .i64 (((((List.take i s) ++ vs)).length : Nat) : Int) (((s).length : Nat) : Int) ((((List.take i s) ++ vs)).length < (s).length) rfl (cmpN_lt ((((List.take i s) ++ vs)).length) ((s).length))) ?_ ?_))))))))))
   ·intro h19
    replace h19 : (((List.take i s) ++ vs)).length < (s).length := by omega
    refine zE (zA (K11 zS (zD (zI (zI (K11 (L_len 116 131 (((List.take i s) ++ vs)).length v13 rfl Tryz.underlying116 (r_vp10.rd).len) (K12 (L_slfrom xJ v_s ((s).length) ((((List.take i s) ++ vs)).length) sh_p_s (by omega)) ⟨.i64, by kernel_rfl⟩ ?_)))))))
    intro vt20 hT21
    refine K11 (L_clearTail xJ v_s v13 vt20 ((List.take i s) ++ vs) hT21 room_p_s r_vp10 (by omega) (by omega) sh_p_s (fun z hz => by cases hz; decide)) ?_
    intro w22 hr23 hg24
    replace hc := hc.trans2 (Ch.of_grown hg24) (fun k e => dr_p_s k e)
    replace r_vp10 := hr23
    replace hs := Nat.le_trans hs hg24.size
    refine zE (zA (zF (zD (zI (zJ (zE (zA (zX (zH ?_)))))))))
    refine zO [.tmp 8] [v13] rfl rfl ⟨by kernel_rfl, trivial⟩ ?_
    have e0 : ((List.take i s) ++ vs) = (List.take i s ++ vs ++ List.drop j s) := by exact gep_tail (by omega)
    exact ⟨_, rfl, r_vp10.cast e0, dr_r_vp10, hc⟩
   ·intro h25
    replace h25 : (s).length ≤ (((List.take i s) ++ vs)).length := by omega
    refine zE (zA (K11 zN (zV (zA (zF (zD (zI (zJ (zE (zA (zX (zH ?_))))))))))))
    refine zO [.tmp 8] [v13] rfl rfl ⟨by kernel_rfl, trivial⟩ ?_
    have e0 : ((List.take i s) ++ vs) = (List.take i s ++ vs ++ List.drop j s) := by exact gep_tail (by omega)
    exact ⟨_, rfl, r_vp10.cast e0, dr_r_vp10, hc⟩
  ·intro h26
   replace h26 : j ≠ (s).length := by omega
   refine zE (zA (K11 zN (zV (zA (zF ?_)))))
   have hk0 : ∀ x, (encSpanI x).length = 3 := fun _ => rfl
   have hz := Row.raw p_s hk0 (by omega)
   obtain ⟨g27, cap28, cur29, hv30, hnc31, hR32, hA33⟩ := hz
   have sh_p_s := p_s.shape
   have a0_34 := (at_mid hk0 hA33 i (by omega)).1
   have a2_35 := xO (at_mid hk0 hA33 j (by omega)).2 (Nat.zero_add _)
   refine K21 W_quiet (yI (yI (K13 (Lq_slTot xJ v_s g27 ((s).length) cap28 i hv30) ⟨.i64, by kernel_rfl⟩ (by omega) (K11 (Lq_len 116 131 i (.slice (some ⟨g27, 0, none⟩) i cap28) rfl Tryz.underlying116 ⟨_, _, rfl⟩) (yI (K11 (Lq_len 116 131 (vs).length v_vs rfl Tryz.underlying116 (p_vs.rd).len) (K21 (Lq_addN i ((vs).length) (by omega)) (yI (yI (K16 (Lq_slRaw xJ v_s g27 0 ((s).length) cap28 j ((s).length) (by rw [Nat.zero_mul]; exact hv30)) ⟨.i64, by kernel_rfl⟩ rfl (by omega) (by omega) (by omega) (K11 (Lq_len 116 131 ((s).length - j) (.slice (some ⟨g27, (0 + j) * 3, none⟩) ((s).length - j) (cap28 - j)) rfl Tryz.underlying116 ⟨_, _, rfl⟩) (K21 (Lq_addN (i + (vs).length) ((s).length - j) (by omega)) (Lq_as (xF ?_))))))))))))))
   intro w36 hB37
   replace hb := hb.trans (hB37.mono hs)
   replace hc := hc.trans2 (Ch.of_below hB37) (fun _ h => h.elim)
   replace hs := Nat.le_trans hs (hB37.size)
   replace hR32 := Raw.below hR32 hB37
   replace p_s := p_s.below hB37
   replace p_vs := p_vs.below hB37
   refine zA (zF (zF (zD (zI (zI (K11 (L_cap 116 131 cap28 v_s rfl Tryz.underlying116 ⟨_, _, hv30⟩) (K22 (yD .i64 ((((i + (vs).length) + ((s).length - j)) : Nat) : Int) ((cap28 : Nat) : Int) (cap28 < ((i + (vs).length) + ((s).length - j))) rfl (cmpN_gt ((i + (vs).length) + ((s).length - j)) cap28)) ?_ ?_)))))))
   ·intro h38
    replace h38 : cap28 < ((i + (vs).length) + ((s).length - j)) := by omega
    refine zE (zA (K11 zS (zF (zD (zI (zI (K12 (L_sltoR xJ v_s s i p_s (fun _ => rfl) (by omega)) ⟨.i64, by kernel_rfl⟩ ?_)))))))
    intro vp39 r_vp40 hsc41
    have dr_r_vp40 : ∀ g, Value.ownBlock vp39 = some g → (World.heap w).size ≤ g ∨ (fun k => Value.ownBlock v_s = some k) g := by rw [hsc41.own]; exact dr_p_s
    have ap_p_vs_r_vp40 := (by rw [hsc41.own]; exact ap_p_vs_p_s : Value.ownBlock v_vs = none ∨ Value.ownBlock v_vs ≠ Value.ownBlock vp39); have ap_r_vp40_p_vs := ap_comm ap_p_vs_r_vp40
    refine zI (zI (K21 (L_subN ((i + (vs).length) + ((s).length - j)) i (by omega) (by omega)) ?_))
    have hsv := samecap_val hsc41 hv30 r_vp40
    refine K31 (L_appZeros (kq := .i64) (kn := .i64) xJ Tryz.underlying3 ((0, 0, 0) : SpI) (by kernel_rfl) B_ vp39 (List.take i s) (((i + (vs).length) + ((s).length - j)) - i) cap28 hs r_vp40 (fun _ => rfl) hsv.1 (by omega) (by (simp only [List.length_append, List.length_take, List.length_drop, List.length_replicate, List.length_cons, List.length_nil] <;> omega)) (by omega) hsv.2) ?_
    intro v42 w43 hr44 hg45 how46 
    have dr2 := dr_app (D := (fun k => Value.ownBlock v_s = some k)) how46 (by have h0 := hc.size; omega : (World.heap w).size ≤ (World.heap w36).size) (dr_nil _)
    have zne_p_s := grow_ne hR32 (zer_new hr44 how46 (by (simp only [List.length_append, List.length_take, List.length_drop, List.length_replicate, List.length_cons, List.length_nil] <;> omega)))
    replace hR32 := Raw.grown hR32 hg45 (by simp [Value.ownBlock])
    have nap_p_s := ap_app2 p_s how46 (ap_nil _)
    have nap_p_vs := ap_app2 p_vs how46 (ap_nil _)
    have nap_r_vp40 := ap_app2 r_vp40 how46 (ap_nil _)
    replace hb := hb.grown hg45 hs (fun k hk => by simp [Value.ownBlock] at hk)
    replace hc := hc.trans2 (Ch.of_grown hg45) (fun k e => by simp [Value.ownBlock] at e)
    replace hs := Nat.le_trans hs (hg45.size)
    have p_vs := p_vs.grown hg45 (by cases h : Value.ownBlock _ <;> simp [Value.ownBlock])
    have ap_p_vs_r_z67 := nap_p_vs
    have r_z67 := hr44
    have dr_r_z67 := dr2; clear dr2
    have hk0 : ∀ x, (encSpanI x).length = 3 := fun _ => rfl
    have hz := Row.raw r_z67 hk0 (by (simp only [List.length_append, List.length_take, List.length_drop, List.length_replicate, List.length_cons, List.length_nil] <;> omega))
    obtain ⟨g47, cap48, cur49, hv50, hnc51, hR52, hA53⟩ := hz
    have sh_r_z67 := r_z67.shape
    have hna_r_z67 := hnc51; simp only [List.length_append, List.length_take, List.length_replicate] at hna_r_z67
    have a0_54 := (at_split hk0 hA53).1
    have rne_r_z67_p_s : g47 ≠ g27 := fun e => zne_p_s (by rw [yO hv50, e])
    have rne_p_s_r_z67 := rne_r_z67_p_s.symm
    refine zJ (zE (zA (zF (zD (zI (zI (K16 (L_slRaw xJ v42 g47 0 ((((List.take i s) ++ (List.replicate (((i + (vs).length) + ((s).length - j)) - i) ((0, 0, 0) : SpI)))).length) cap48 i ((((List.take i s) ++ (List.replicate (((i + (vs).length) + ((s).length - j)) - i) ((0, 0, 0) : SpI)))).length) (by rw [Nat.zero_mul]; exact hv50)) ⟨.i64, by kernel_rfl⟩ rfl (by (simp only [List.length_append, List.length_take, List.length_drop, List.length_replicate, List.length_cons, List.length_nil] <;> omega)) (by omega) (by omega) (zI (K23 (L_copyRd (a := (0 + i)) (p := ((((List.take i s) ++ (List.replicate (((i + (vs).length) + ((s).length - j)) - i) ((0, 0, 0) : SpI)))).length - i)) (c1 := (cap48 - i)) xJ v_vs vs hR52 p_vs.rd hk0 (fun _ => rfl)) (by (simp only [List.length_append, List.length_take, List.length_drop, List.length_replicate, List.length_cons, List.length_nil] <;> omega)) (by omega) ?_)))))))))
    intro w55 hR56 hg57
    have a0_58 := at_lo (a := (0 + i)) (cs := List.flatMap encSpanI vs) a0_54 (by (simp only [List.length_append, List.length_take, List.length_drop, List.length_replicate, List.length_cons, List.length_nil] <;> omega)) (Raw.le hR52 (by omega))
    have b_59 := at_put (a := (0 + i)) (ys := vs) hk0 (Raw.le2 hR52 (by omega))
    have hg2 : World.grownBy w43 w55 (Value.ownBlock v42) := by rw [yO hv50]; exact hg57
    replace hb := hb.grown hg2 hs (fun k hk => by rw [yO hv50] at hk; cases hk; exact hR52.base)
    replace hc := hc.trans2 (Ch.of_grown hg2) (fun k e => dr_r_z67 k e)
    replace hs := Nat.le_trans hs hg2.size
    replace p_vs := p_vs.grown hg2 ap_p_vs_r_z67
    replace hR32 := hR32.grown hg2 (by rw [yO hv50]; exact fun e => rne_r_z67_p_s (Option.some.inj e))
    clear hg2
    refine zE (zA (zF (W_pre 9 10 1 (by kernel_rfl) (by kernel_rfl) (by kernel_rfl) (by kernel_rfl) (by kernel_rfl) (by kernel_rfl) (by kernel_rfl) (yI (yI (yI (K11 (Lq_len 116 131 (vs).length v_vs rfl Tryz.underlying116 (p_vs.rd).len) (K21 (Lq_addN i ((vs).length) (by omega)) (K16 (Lq_slRaw xJ v42 g47 0 ((((List.take i s) ++ (List.replicate (((i + (vs).length) + ((s).length - j)) - i) ((0, 0, 0) : SpI)))).length) cap48 (i + (vs).length) ((((List.take i s) ++ (List.replicate (((i + (vs).length) + ((s).length - j)) - i) ((0, 0, 0) : SpI)))).length) (by rw [Nat.zero_mul]; exact hv50)) ⟨.i64, by kernel_rfl⟩ rfl (by (simp only [List.length_append, List.length_take, List.length_drop, List.length_replicate, List.length_cons, List.length_nil] <;> omega)) (by omega) (by omega) (yI (yI (K16 (Lq_slRaw xJ v_s g27 0 ((s).length) cap28 j ((s).length) (by rw [Nat.zero_mul]; exact hv30)) ⟨.i64, by kernel_rfl⟩ rfl (by omega) (by omega) (by omega) (xF ?_)))))))))))))
    intro w60 hB61
    replace hb := hb.trans (hB61.mono hs)
    replace hc := hc.trans2 (Ch.of_below hB61) (fun _ h => h.elim)
    replace hs := Nat.le_trans hs (hB61.size)
    replace hR32 := Raw.below hR32 hB61
    replace hR56 := Raw.below hR56 hB61
    refine K11 (yJ 9) ?_
    refine yZ 9 rfl ?_ rfl
    refine K23 (L_copyRd (a := (0 + (i + (vs).length))) (p := ((((List.take i s) ++ (List.replicate (((i + (vs).length) + ((s).length - j)) - i) ((0, 0, 0) : SpI)))).length - (i + (vs).length))) (c1 := (cap48 - (i + (vs).length))) xJ (.slice (some ⟨g27, (0 + j) * 3, none⟩) ((s).length - j) (cap28 - j)) (List.drop j s) hR56 (at_rd hR32 hk0 (xO a2_35 (by omega)) (by (simp only [List.length_append, List.length_take, List.length_drop, List.length_replicate, List.length_cons, List.length_nil] <;> omega))) hk0 (fun _ => rfl)) (by (simp only [List.length_append, List.length_take, List.length_drop, List.length_replicate, List.length_cons, List.length_nil] <;> omega)) (by (simp only [List.length_append, List.length_take, List.length_drop, List.length_replicate, List.length_cons, List.length_nil] <;> omega)) ?_
    intro w62 hR63 hg64
    have a0_65 := at_lo (a := (0 + (i + (vs).length))) (cs := List.flatMap encSpanI (List.drop j s)) a0_58 (by (simp only [List.length_append, List.length_take, List.length_drop, List.length_replicate, List.length_cons, List.length_nil] <;> omega)) (Raw.le hR56 (by omega))
    have b_66 := at_lo (a := (0 + (i + (vs).length))) (cs := List.flatMap encSpanI (List.drop j s)) b_59 (by omega) (Raw.le hR56 (by omega))
    have c_67 := at_put (a := (0 + (i + (vs).length))) (ys := (List.drop j s)) hk0 (Raw.le2 hR56 (by (simp only [List.length_append, List.length_take, List.length_drop, List.length_replicate, List.length_cons, List.length_nil] <;> omega)))
    have hg2 : World.grownBy w60 w62 (Value.ownBlock v42) := by rw [yO hv50]; exact hg64
    replace hb := hb.grown hg2 hs (fun k hk => by rw [yO hv50] at hk; cases hk; exact hR56.base)
    replace hc := hc.trans2 (Ch.of_grown hg2) (fun k e => dr_r_z67 k e)
    replace hs := Nat.le_trans hs hg2.size
    replace hR32 := hR32.grown hg2 (by rw [yO hv50]; exact fun e => rne_r_z67_p_s (Option.some.inj e))
    clear hg2
    refine zE ?_
    refine ⟨rfl, ?_⟩
    refine K11 yQ ?_
    refine zA (zF (zD (zI (zJ (zE (zA (zX (zH ?_))))))))
    refine zO [.tmp 8] [v42] rfl rfl ⟨by kernel_rfl, trivial⟩ ?_
    have hjn := at_join hk0 (at_join hk0 a0_65 (xO b_66 (by (simp only [List.length_append, List.length_take, List.length_drop, List.length_replicate, List.length_cons, List.length_nil] <;> omega)))) (xO c_67 (by (simp only [List.length_append, List.length_take, List.length_drop, List.length_replicate, List.length_cons, List.length_nil] <;> omega)))
    have hrr := Raw.row hR63 hk0 (N := ((((List.take i s) ++ (List.replicate (((i + (vs).length) + ((s).length - j)) - i) ((0, 0, 0) : SpI)))).length)) (by (simp only [List.length_append, List.length_take, List.length_drop, List.length_replicate, List.length_cons, List.length_nil] <;> omega)) (by (simp only [List.length_append, List.length_take, List.length_drop, List.length_replicate, List.length_cons, List.length_nil] <;> omega)) hjn
    exact ⟨_, hv50, hrr, (fun g e => dr_r_z67 g (by rw [yO hv50]; exact e)), hc⟩
   ·intro h68
    replace h68 : ((i + (vs).length) + ((s).length - j)) ≤ cap28 := by omega
    refine zE (zA (K11 zN (zV (zA (zF (zD (zI (zI (K13 (L_slTot xJ v_s g27 ((s).length) cap28 ((i + (vs).length) + ((s).length - j)) hv30) ⟨.i64, by kernel_rfl⟩ (by omega) (zJ (zE (zA (zF (zF (zD (zI (zI (K11 (L_len 116 131 (vs).length v_vs rfl Tryz.underlying116 (p_vs.rd).len) (K21 (xD i ((vs).length) (by omega)) (zI (K22 (yD .i64 (((i + (vs).length) : Nat) : Int) ((j : Nat) : Int) ((i + (vs).length) ≤ j) rfl (cmpN_le (i + (vs).length) j)) ?_ ?_)))))))))))))))))))))
    ·intro h69
     replace h69 : (i + (vs).length) ≤ j := by omega
     refine zE (zA (K11 zS (zF (zD (zI (zI (K16 (L_slRaw xJ (.slice (some ⟨g27, 0, none⟩) ((i + (vs).length) + ((s).length - j)) cap28) g27 0 ((i + (vs).length) + ((s).length - j)) cap28 i ((i + (vs).length) + ((s).length - j)) (by rw [Nat.zero_mul])) ⟨.i64, by kernel_rfl⟩ rfl (by omega) (by omega) (by omega) (zI (K23 (L_copyRd (a := (0 + i)) (p := (((i + (vs).length) + ((s).length - j)) - i)) (c1 := (cap28 - i)) xJ v_vs vs hR32 p_vs.rd hk0 (fun _ => rfl)) (by omega) (by omega) ?_)))))))))
     intro w70 hR71 hg72
     have a0_73 := at_lo (a := (0 + i)) (cs := List.flatMap encSpanI vs) a0_34 (by (simp only [List.length_append, List.length_take, List.length_drop, List.length_replicate, List.length_cons, List.length_nil] <;> omega)) (Raw.le hR32 (by omega))
     have a2_74 := at_hi (a := (0 + i)) (ys := vs) hk0 a2_35 (by omega) (Raw.le2 hR32 (by omega))
     have b_75 := at_put (a := (0 + i)) (ys := vs) hk0 (Raw.le2 hR32 (by omega))
     have hg2 : World.grownBy w36 w70 (Value.ownBlock v_s) := by rw [yO hv30]; exact hg72
     replace hb := hb.grown hg2 hs (fun k hk => by rw [yO hv30] at hk; cases hk; exact hR32.base)
     replace hc := hc.trans2 (Ch.of_grown hg2) (fun k e => dr_p_s k e)
     replace hs := Nat.le_trans hs hg2.size
     replace p_vs := p_vs.grown hg2 ap_p_vs_p_s
     clear hg2
     refine zE (zA (zF (W_pre 9 10 1 (by kernel_rfl) (by kernel_rfl) (by kernel_rfl) (by kernel_rfl) (by kernel_rfl) (by kernel_rfl) (by kernel_rfl) (yI (yI (yI (K11 (Lq_len 116 131 (vs).length v_vs rfl Tryz.underlying116 (p_vs.rd).len) (K21 (Lq_addN i ((vs).length) (by omega)) (K16 (Lq_slRaw xJ (.slice (some ⟨g27, 0, none⟩) ((i + (vs).length) + ((s).length - j)) cap28) g27 0 ((i + (vs).length) + ((s).length - j)) cap28 (i + (vs).length) ((i + (vs).length) + ((s).length - j)) (by rw [Nat.zero_mul])) ⟨.i64, by kernel_rfl⟩ rfl (by omega) (by omega) (by omega) (yI (yI (K16 (Lq_slRaw xJ v_s g27 0 ((s).length) cap28 j ((s).length) (by rw [Nat.zero_mul]; exact hv30)) ⟨.i64, by kernel_rfl⟩ rfl (by omega) (by omega) (by omega) (xF ?_)))))))))))))
     intro w76 hB77
     replace hb := hb.trans (hB77.mono hs)
     replace hc := hc.trans2 (Ch.of_below hB77) (fun _ h => h.elim)
     replace hs := Nat.le_trans hs (hB77.size)
     replace hR71 := Raw.below hR71 hB77
     refine K11 (yJ 9) ?_
     refine yZ 9 rfl ?_ rfl
     refine K23 (L_copySelf (a := (0 + (i + (vs).length))) (p := (((i + (vs).length) + ((s).length - j)) - (i + (vs).length))) (c1 := (cap28 - (i + (vs).length))) (b := (0 + j)) (q := ((s).length - j)) (c2 := (cap28 - j)) xJ (List.drop j s) hR71 (xO a2_74 (by omega)) hk0 (fun _ => rfl)) (by (simp only [List.length_append, List.length_take, List.length_drop, List.length_replicate, List.length_cons, List.length_nil] <;> omega)) (by (simp only [List.length_append, List.length_take, List.length_drop, List.length_replicate, List.length_cons, List.length_nil] <;> omega)) ?_
     intro w78 hR79 hg80
     have a0_81 := at_lo (a := (0 + (i + (vs).length))) (cs := List.flatMap encSpanI (List.drop j s)) a0_73 (by (simp only [List.length_append, List.length_take, List.length_drop, List.length_replicate, List.length_cons, List.length_nil] <;> omega)) (Raw.le hR71 (by omega))
     have b_82 := at_lo (a := (0 + (i + (vs).length))) (cs := List.flatMap encSpanI (List.drop j s)) b_75 (by omega) (Raw.le hR71 (by omega))
     have c_83 := at_put (a := (0 + (i + (vs).length))) (ys := (List.drop j s)) hk0 (Raw.le2 hR71 (by (simp only [List.length_append, List.length_take, List.length_drop, List.length_replicate, List.length_cons, List.length_nil] <;> omega)))
     have hg2 : World.grownBy w76 w78 (Value.ownBlock v_s) := by rw [yO hv30]; exact hg80
     replace hb := hb.grown hg2 hs (fun k hk => by rw [yO hv30] at hk; cases hk; exact hR71.base)
     replace hc := hc.trans2 (Ch.of_grown hg2) (fun k e => dr_p_s k e)
     replace hs := Nat.le_trans hs hg2.size
     clear hg2
     refine zE ?_
     refine ⟨rfl, ?_⟩
     refine K11 yQ ?_
     refine zA (zF (zD (zI (zI (K12 (L_slfrom xJ v_s ((s).length) ((i + (vs).length) + ((s).length - j)) sh_p_s (by omega)) ⟨.i64, by kernel_rfl⟩ ?_)))))
     intro vt84 hT85
     refine K11 (L_clearRaw (α := Int × Int × Int) (enc := encSpanI) (lo := ((i + (vs).length) + ((s).length - j))) xJ v_s vt84 hv30 hT85 hR79 (by omega) hnc31 (fun z hz => by cases hz; decide)) ?_
     intro w86 cur89 hR87 hst90 hg88
     have a0_91 := hst90 _ _ (by (simp only [List.length_append, List.length_take, List.length_drop, List.length_replicate, List.length_cons, List.length_nil] <;> omega)) a0_81
     have b_92 := hst90 _ _ (by omega) b_82
     have c_93 := hst90 _ _ (by (simp only [List.length_append, List.length_take, List.length_drop, List.length_replicate, List.length_cons, List.length_nil] <;> omega)) c_83
     have hg2 : World.grownBy w78 w86 (Value.ownBlock v_s) := by rw [yO hv30]; exact hg88
     replace hb := hb.grown hg2 hs (fun k hk => by rw [yO hv30] at hk; cases hk; exact hR79.base)
     replace hc := hc.trans2 (Ch.of_grown hg2) (fun k e => dr_p_s k e)
     replace hs := Nat.le_trans hs hg2.size
     clear hg2
     refine zE (zA (zF (zD (zI (zJ (zE (zA (zX (zH ?_)))))))))
     refine zO [.tmp 8] [(.slice (some ⟨g27, 0, none⟩) ((i + (vs).length) + ((s).length - j)) cap28)] rfl rfl ⟨by kernel_rfl, trivial⟩ ?_
     have hjn := at_join hk0 (at_join hk0 a0_91 (xO b_92 (by (simp only [List.length_append, List.length_take, List.length_drop, List.length_replicate, List.length_cons, List.length_nil] <;> omega)))) (xO c_93 (by (simp only [List.length_append, List.length_take, List.length_drop, List.length_replicate, List.length_cons, List.length_nil] <;> omega)))
     have hrr := Raw.row hR87 hk0 (N := ((i + (vs).length) + ((s).length - j))) (by (simp only [List.length_append, List.length_take, List.length_drop, List.length_replicate, List.length_cons, List.length_nil] <;> omega)) (by (simp only [List.length_append, List.length_take, List.length_drop, List.length_replicate, List.length_cons, List.length_nil] <;> omega)) hjn
     exact ⟨_, rfl, hrr, (fun g e => dr_p_s g (by rw [yO hv30]; exact e)), hc⟩
    ·intro h94
     replace h94 : j < (i + (vs).length) := by omega
     refine zE (zA (K11 zN (zV (zA (zF (zF (zD (zI (zI (zI (K11 (L_len 116 131 (vs).length v_vs rfl Tryz.underlying116 (p_vs.rd).len) (K21 (xD i ((vs).length) (by omega)) (K16 (L_slRaw xJ (.slice (some ⟨g27, 0, none⟩) ((i + (vs).length) + ((s).length - j)) cap28) g27 0 ((i + (vs).length) + ((s).length - j)) cap28 (i + (vs).length) ((i + (vs).length) + ((s).length - j)) (by rw [Nat.zero_mul])) ⟨.i64, by kernel_rfl⟩ rfl (by omega) (by omega) (by omega) (zI ?_))))))))))))))
     have hk0 : ∀ x, (encSpanI x).length = 3 := fun _ => rfl
     have hz := Row.raw p_vs hk0 (by omega)
     obtain ⟨g95, cap96, cur97, hv98, hnc99, hR100, hA101⟩ := hz
     have sh_p_vs := p_vs.shape
     have rne_p_vs_p_s : g95 ≠ g27 := rne_of hv98 hv30 ap_p_vs_p_s
     have rne_p_s_p_vs := rne_p_vs_p_s.symm
     refine L_overlaps xJ (ga := g27) (gb := g95) (R := 4) Tryz.func154 (by kernel_rfl) (by kernel_rfl) (by kernel_rfl) (by kernel_rfl) ((0 + (i + (vs).length)) * 3) (((i + (vs).length) + ((s).length - j)) - (i + (vs).length)) (cap28 - (i + (vs).length)) 0 ((vs).length) cap96 hR32 hR100 rne_p_s_p_vs (by rw [hR100.size]; exact Nat.mul_pos (by omega) (by decide)) (by kernel_rfl) ((by kernel_rfl : _ = v_vs).trans hv98) (K11 (L_not false) (zE (zA (K11 zS (zF (W_pre 9 10 1 (by kernel_rfl) (by kernel_rfl) (by kernel_rfl) (by kernel_rfl) (by kernel_rfl) (by kernel_rfl) (by kernel_rfl) (yI (yI (yI (K11 (Lq_len 116 131 (vs).length v_vs rfl Tryz.underlying116 (p_vs.rd).len) (K21 (Lq_addN i ((vs).length) (by omega)) (K16 (Lq_slRaw xJ (.slice (some ⟨g27, 0, none⟩) ((i + (vs).length) + ((s).length - j)) cap28) g27 0 ((i + (vs).length) + ((s).length - j)) cap28 (i + (vs).length) ((i + (vs).length) + ((s).length - j)) (by rw [Nat.zero_mul])) ⟨.i64, by kernel_rfl⟩ rfl (by omega) (by omega) (by omega) (yI (yI (K16 (Lq_slRaw xJ v_s g27 0 ((s).length) cap28 j ((s).length) (by rw [Nat.zero_mul]; exact hv30)) ⟨.i64, by kernel_rfl⟩ rfl (by omega) (by omega) (by omega) (xF ?_))))))))))))))))
     intro w102 hB103
     replace hb := hb.trans (hB103.mono hs)
     replace hc := hc.trans2 (Ch.of_below hB103) (fun _ h => h.elim)
     replace hs := Nat.le_trans hs (hB103.size)
     replace hR32 := Raw.below hR32 hB103
     replace hR100 := Raw.below hR100 hB103
     replace p_vs := p_vs.below hB103
     refine K11 (yJ 9) ?_
     refine yZ 9 rfl ?_ rfl
     refine K23 (L_copySelf (a := (0 + (i + (vs).length))) (p := (((i + (vs).length) + ((s).length - j)) - (i + (vs).length))) (c1 := (cap28 - (i + (vs).length))) (b := (0 + j)) (q := ((s).length - j)) (c2 := (cap28 - j)) xJ (List.drop j s) hR32 (xO a2_35 (by omega)) hk0 (fun _ => rfl)) (by (simp only [List.length_append, List.length_take, List.length_drop, List.length_replicate, List.length_cons, List.length_nil] <;> omega)) (by (simp only [List.length_append, List.length_take, List.length_drop, List.length_replicate, List.length_cons, List.length_nil] <;> omega)) ?_
     intro w104 hR105 hg106
     have a0_107 := at_lo (a := (0 + (i + (vs).length))) (cs := List.flatMap encSpanI (List.drop j s)) a0_34 (by (simp only [List.length_append, List.length_take, List.length_drop, List.length_replicate, List.length_cons, List.length_nil] <;> omega)) (Raw.le hR32 (by omega))
     have c_108 := at_put (a := (0 + (i + (vs).length))) (ys := (List.drop j s)) hk0 (Raw.le2 hR32 (by (simp only [List.length_append, List.length_take, List.length_drop, List.length_replicate, List.length_cons, List.length_nil] <;> omega)))
     have hg2 : World.grownBy w102 w104 (Value.ownBlock v_s) := by rw [yO hv30]; exact hg106
     replace hb := hb.grown hg2 hs (fun k hk => by rw [yO hv30] at hk; cases hk; exact hR32.base)
     replace hc := hc.trans2 (Ch.of_grown hg2) (fun k e => dr_p_s k e)
     replace hs := Nat.le_trans hs hg2.size
     replace p_vs := p_vs.grown hg2 ap_p_vs_p_s
     replace hR100 := hR100.grown hg2 (by rw [yO hv30]; exact fun e => rne_p_s_p_vs (Option.some.inj e))
     clear hg2
     refine zE ?_
     refine ⟨rfl, ?_⟩
     refine K11 yQ ?_
     refine zA (zF (zD (zI (zI (K16 (L_slRaw xJ (.slice (some ⟨g27, 0, none⟩) ((i + (vs).length) + ((s).length - j)) cap28) g27 0 ((i + (vs).length) + ((s).length - j)) cap28 i ((i + (vs).length) + ((s).length - j)) (by rw [Nat.zero_mul])) ⟨.i64, by kernel_rfl⟩ rfl (by omega) (by omega) (by omega) (zI (K23 (L_copyRd (a := (0 + i)) (p := (((i + (vs).length) + ((s).length - j)) - i)) (c1 := (cap28 - i)) xJ v_vs vs hR105 p_vs.rd hk0 (fun _ => rfl)) (by omega) (by omega) ?_)))))))
     intro w109 hR110 hg111
     have a0_112 := at_lo (a := (0 + i)) (cs := List.flatMap encSpanI vs) a0_107 (by (simp only [List.length_append, List.length_take, List.length_drop, List.length_replicate, List.length_cons, List.length_nil] <;> omega)) (Raw.le hR105 (by omega))
     have c_113 := at_hi (a := (0 + i)) (ys := vs) hk0 c_108 (by omega) (Raw.le2 hR105 (by omega))
     have b_114 := at_put (a := (0 + i)) (ys := vs) hk0 (Raw.le2 hR105 (by omega))
     have hg2 : World.grownBy w104 w109 (Value.ownBlock v_s) := by rw [yO hv30]; exact hg111
     replace hb := hb.grown hg2 hs (fun k hk => by rw [yO hv30] at hk; cases hk; exact hR105.base)
     replace hc := hc.trans2 (Ch.of_grown hg2) (fun k e => dr_p_s k e)
     replace hs := Nat.le_trans hs hg2.size
     replace hR100 := hR100.grown hg2 (by rw [yO hv30]; exact fun e => rne_p_s_p_vs (Option.some.inj e))
     clear hg2
     refine zE (zA (zF (zD (zI (zJ (zE (zA (zX (zH ?_)))))))))
     refine zO [.tmp 8] [(.slice (some ⟨g27, 0, none⟩) ((i + (vs).length) + ((s).length - j)) cap28)] rfl rfl ⟨by kernel_rfl, trivial⟩ ?_
     have hjn := at_join hk0 (at_join hk0 a0_112 (xO b_114 (by (simp only [List.length_append, List.length_take, List.length_drop, List.length_replicate, List.length_cons, List.length_nil] <;> omega)))) (xO c_113 (by (simp only [List.length_append, List.length_take, List.length_drop, List.length_replicate, List.length_cons, List.length_nil] <;> omega)))
     have hrr := Raw.row hR110 hk0 (N := ((i + (vs).length) + ((s).length - j))) (by (simp only [List.length_append, List.length_take, List.length_drop, List.length_replicate, List.length_cons, List.length_nil] <;> omega)) (by (simp only [List.length_append, List.length_take, List.length_drop, List.length_replicate, List.length_cons, List.length_nil] <;> omega)) hjn
     exact ⟨_, rfl, hrr, (fun g e => dr_p_s g (by rw [yO hv30]; exact e)), hc⟩
end Go.Proofs.YtkclikfejmeblaaGreatDoor
end

/- === WcnI === -/
section
/- Walks, written by my program walk.py out of the specification cnI.py: each theorem says what one function returns and that it leaves memory as it was. -/
namespace Go.Proofs.YtkclikfejmeblaaGreatDoor
open Go Go.RowKit Go.FK
set_option maxHeartbeats 4000000
set_option maxRecDepth 100000
set_option linter.unusedVariables false
set_option linter.unusedSimpArgs false
theorem c_cut_I (b_m : Nat) (v_xs : Value) (xs : List (Int × Int × Int)) (lo : Int) (hi : Int) (B_ : Nat) (w : World) (hs0 : B_ ≤ w.heap.size) (o_m : w.heap[b_m]? = some (.cells [v_xs, (.bool true)].toArray 118 (0, 0))) (g_m : B_ ≤ b_m) (p_xs : Row w B_ 131 3 encSpanI v_xs xs) (hr : RiseG 0 xs) (hlo : -2147483648 ≤ lo ∧ lo ≤ 2147483647) (hhi : -2147483648 ≤ hi ∧ hi ≤ 2147483647) :
  Calls Tryz.prog 134 #[(.pointer (some ⟨b_m, 0, none⟩)), (Value.agg #[(.int .i32 lo), (.int .i32 hi)])] w (Ret fun v w' => ∃ q0 : Value, v = (.tuple #[(.int .i64 (cutN xs lo hi)), (.int .i64 (layE lo hi))]) ∧ w'.heap[b_m]? = some (.cells [q0, (.bool true)].toArray 118 (0, 0)) ∧ Row w' B_ 131 3 encSpanI q0 (cutM xs lo hi) ∧ (∀ g, Value.ownBlock q0 = some g → w.heap.size ≤ g ∨ (Dm b_m v_xs) g) ∧ Ch (Dm b_m v_xs) w w') := by
 refine K11 (enter (args := [(.pointer (some ⟨b_m, 0, none⟩)), (Value.agg #[(.int .i32 lo), (.int .i32 hi)])]) Tryz.func134 rfl (by kernel_rfl : _ = 111)) ?_
 have hb := Below.refl B_ w
 have hs : B_ ≤ (World.heap w).size := hs0
 have hc := Ch.refl (Dm b_m v_xs) w
 have dk_m : (World.heap w).size ≤ b_m ∨ (Dm b_m v_xs) b_m := .inr (.inl rfl)
 have dr_p_xs : ∀ g, Value.ownBlock v_xs = some g → (World.heap w).size ≤ g ∨ (Dm b_m v_xs) g := fun g h => .inr (.inr h)
 have hln := hr.len
 refine zF (zD (K21 (yW (fun b => .pointer (some ⟨b, 0, none⟩)) (.cells [(.int .i32 lo), (.int .i32 hi)].toArray 32 (0, 0))) ?_))
 intro b1 w2 hN3
 have g_x3 : B_ ≤ b1 := by rw [hN3.num]; exact hs
 have dk_x3 : (World.heap w).size ≤ b1 ∨ (Dm b_m v_xs) b1 := .inl (by rw [hN3.num]; exact hc.size)
 replace hb := hb.trans (hN3.below.mono hs)
 replace hc := hc.trans2 (Ch.of_below hN3.below) (fun _ h => h.elim)
 replace hs := Nat.le_trans hs (hN3.below.size)
 replace o_m := zB o_m hN3.below
 replace p_xs := p_xs.below hN3.below
 have o_x3 := hN3.here
 refine zJ (zJ (zE (zA (zF (yP (zF (zD (zI (K22 (yA 72 [(.pointer (some ⟨b_m, 0, none⟩))]) (c_none_I b_m v_xs xs _ o_m p_xs.rd) ?_)))))))))
 rintro _ w4 ⟨rfl, hB5⟩
 replace hb := hb.trans (hB5.mono hs)
 replace hc := hc.trans2 (Ch.of_below hB5) (fun _ h => h.elim)
 replace hs := Nat.le_trans hs (hB5.size)
 replace o_m := zB o_m hB5
 replace o_x3 := zB o_x3 hB5
 replace p_xs := p_xs.below hB5
 refine zJ (zE (zA (K11 zN (zF (zD (K32 (yH b1 0 [(.int .i32 lo), (.int .i32 hi)]) (K10 (yN o_x3 0)) (K22 (yA 64 [(Value.agg #[(.int .i32 lo), (.int .i32 hi)])]) (c_points_May lo hi _) ?_)))))))
 rintro _ w7 ⟨rfl, hB8⟩
 replace hb := hb.trans (hB8.mono hs)
 replace hc := hc.trans2 (Ch.of_below hB8) (fun _ h => h.elim)
 replace hs := Nat.le_trans hs (hB8.size)
 replace o_m := zB o_m hB8
 replace o_x3 := zB o_x3 hB8
 replace p_xs := p_xs.below hB8
 refine xK (mayF lo hi) ?_ ?_
 ·intro h10
  have hmb := mayG_b h10
  refine K11 (L_not true) (zJ (zE (zA (K11 zN (zV (zP (zA (zF (zD (zJ (zE (zA (zF (zD (zI (K21 (zQ (.pointer (some ⟨b1, 0, none⟩))) (K22 (zZ b1 0 (.int .i32 lo)) (zM o_x3 rfl) (K22 (yA 73 [(.pointer (some ⟨b_m, 0, none⟩)), (.int .i32 lo)]) (c_from_I b_m v_xs xs lo _ o_m p_xs.rd (by exact hr) (by omega)) ?_))))))))))))))))))
  rintro _ w11 ⟨rfl, hB12⟩
  replace hb := hb.trans (hB12.mono hs)
  replace hc := hc.trans2 (Ch.of_below hB12) (fun _ h => h.elim)
  replace hs := Nat.le_trans hs (hB12.size)
  replace o_m := zB o_m hB12
  replace o_x3 := zB o_x3 hB12
  replace p_xs := p_xs.below hB12
  have := fromG_le xs lo
  refine zJ (zE (zA (zF (zD (zI (zJ (zE (zA (zF (zD (zJ (zE (zA (zF (yP ?_)))))))))))))))
  refine W_loop (fun m s0 w0 => ∃ (j : Nat) (z : Int) (ys : List SpI) (v_9 : Value), (m = xs.length - j) ∧ (s0.ds = []) ∧ (s0.f 0 = (.pointer (some ⟨b_m, 0, none⟩))) ∧ (s0.f 3 = (.pointer (some ⟨b1, 0, none⟩))) ∧ (s0.f 4 = (.int .i64 0)) ∧ (s0.f 5 = (.int .i64 0)) ∧ (s0.f 7 = (.int .i64 (((fromG xs lo) : Nat) : Int))) ∧ (s0.f 6 = (.int .i64 z)) ∧ (s0.f 8 = (.int .i64 ((j : Nat) : Int))) ∧ (s0.f 9 = v_9) ∧ (Row w0 B_ 131 3 encSpanI v_xs xs) ∧ (Row w0 B_ 131 3 encSpanI v_9 ys) ∧ (w0.heap[b_m]? = some (.cells [v_xs, (.bool true)].toArray 118 (0, 0))) ∧ (w0.heap[b1]? = some (.cells [(.int .i32 lo), (.int .i32 hi)].toArray 32 (0, 0))) ∧ (Value.ownBlock v_xs = none ∨ Value.ownBlock v_xs ≠ Value.ownBlock v_9) ∧ (Below B_ w w0) ∧ (Ch (Dm b_m v_xs) w w0) ∧ (∀ g, Value.ownBlock v_9 = some g → (World.heap w).size ≤ g ∨ (Dm b_m v_xs) g) ∧ (B_ ≤ w0.heap.size) ∧ (cutI lo hi xs j z ys)) _ ⟨(fromG xs lo), 0, [], (.slice none 0 0), rfl, by kernel_rfl, by kernel_rfl, by kernel_rfl, by kernel_rfl, by kernel_rfl, by kernel_rfl, by kernel_rfl, by kernel_rfl, by kernel_rfl, p_xs, Row.nil _ _ _ _ _, o_m, o_x3, ap_nil _, hb, hc, dr_nil _, hs, cutI_zero⟩ ?_
  rintro m14 s15 w16 ⟨j, z, ys, v_9, hm, hds, f_0, f_3, f_4, f_5, f_7, f_6, f_8, f_9, p_xs, r_9, o_m, o_x3, ap_p_xs_r_9, hb, hc, dr_r_9, hs, i1⟩
  refine yK 0 _ f_0 (yK 3 _ f_3 (yK 4 _ f_4 (yK 5 _ f_5 (yK 7 _ f_7 (yK 6 _ f_6 (yK 8 _ f_8 (yK 9 _ f_9 ?_)))))))
  clear f_0 f_3 f_4 f_5 f_7 f_6 f_8 f_9
  have ap_r_9_p_xs := ap_comm ap_p_xs_r_9
  have hcb := i1.2.2.2.2
  have hcj := i1.2.1
  have hci := i1.1
  refine zF (zF (K21 W_quiet (yI (yI (yS (.pointer (some ⟨b_m, 0, none⟩)) (fun _ => by kernel_rfl) (yS (.pointer (some ⟨b_m, 0, none⟩)) (fun _ => by kernel_rfl) (K13 (yY b_m 0 v_xs) (fun _ => by kernel_rfl) (zM o_m rfl) (K11 (Lq_len 116 131 (xs).length v_xs rfl Tryz.underlying116 (p_xs.rd).len) (K22 (Lq_cmp .i64 ((j : Nat) : Int) (((xs).length : Nat) : Int) (j < (xs).length) rfl (cmpN_lt j ((xs).length))) ?_ ?_)))))))))
  ·intro h17
   replace h17 : j < (xs).length := by omega
   refine yI (K11 yB (yI (K11 yB (yS (.pointer (some ⟨b_m, 0, none⟩)) (fun _ => by kernel_rfl) (K11 yB (yS (.pointer (some ⟨b_m, 0, none⟩)) (fun _ => by kernel_rfl) (K11 yB (K13 (yY b_m 0 v_xs) (fun _ => by kernel_rfl) (zM o_m rfl) (K11 yB (yI (K11 yB ?_)))))))))))
   have hz := yT xs j (by omega); obtain ⟨x18, hx19⟩ := hz
   have hz := (p_xs.rd).at (k := 3) (fun _ => rfl) hx19
   obtain ⟨g20, off21, hl22, hc23⟩ := hz
   have hre := hr.at hx19
   refine K21 (Lq_ixaddr (k := .i64) v_xs j _ g20 off21 xJ hl22 (by omega)) (K11 yB (yS (.pointer (some ⟨g20, (off21 + j * 3), none⟩)) (fun _ => by kernel_rfl) (K11 yB (K13 (yY g20 (off21 + j * 3) (.int .i32 x18.1)) (fun _ => by kernel_rfl) (hc23 0 _ rfl) (K11 yB (yS (.pointer (some ⟨b1, 1, none⟩)) (fun _ => by kernel_rfl) (K11 yB (K13 (yY b1 1 (.int .i32 hi)) (fun _ => by kernel_rfl) (zM o_x3 rfl) (K11 yB (K22 (Lq_cmp .i32 x18.1 hi (x18.1 ≤ hi) rfl (cmp_le x18.1 hi)) ?_ ?_))))))))))
   ·intro h24
    replace h24 : x18.1 ≤ hi := by omega
    refine K11 xT (xF ?_)
    intro w25 hB26
    replace hb := hb.trans (hB26.mono hs)
    replace hc := hc.trans2 (Ch.of_below hB26) (fun _ h => h.elim)
    replace hs := Nat.le_trans hs (hB26.size)
    replace o_m := zB o_m hB26
    replace o_x3 := zB o_x3 hB26
    replace p_xs := p_xs.below hB26
    replace r_9 := r_9.below hB26
    refine zA (K11 zS (zV (zA (zF (yP (zF (zD (zI (K21 (zQ (.pointer (some ⟨b_m, 0, none⟩))) (K21 (zQ (.pointer (some ⟨b_m, 0, none⟩))) (K22 (zZ b_m 0 v_xs) (zM o_m rfl) (zI ?_))))))))))))
    have hz := (p_xs.rd).at (k := 3) (fun _ => rfl) hx19
    obtain ⟨g29, off30, hl31, hc32⟩ := hz
    refine K21 (xE (k := .i64) v_xs j _ g29 off30 xJ hl31 (by omega)) (K32 (yH g29 (off30 + j * 3) [(.int .i32 x18.1), (.int .i32 x18.2.1), (.int .i64 x18.2.2)]) hc32 (K21 (yW (fun b => .pointer (some ⟨b, 0, none⟩)) (.cells [(.int .i32 0), (.int .i32 0), (.int .i64 0)].toArray 131 (0, 0))) ?_))
    intro b33 w34 hN35
    have g_x10 : B_ ≤ b33 := by rw [hN35.num]; exact hs
    have dk_x10 : (World.heap w).size ≤ b33 ∨ (Dm b_m v_xs) b33 := .inl (by rw [hN35.num]; exact hc.size)
    have nb_o_x10_p_xs := p_xs.new_ne hN35
    have nb_o_x10_r_9 := r_9.new_ne hN35
    replace hb := hb.trans (hN35.below.mono hs)
    replace hc := hc.trans2 (Ch.of_below hN35.below) (fun _ h => h.elim)
    replace hs := Nat.le_trans hs (hN35.below.size)
    replace o_m := zB o_m hN35.below
    replace o_x3 := zB o_x3 hN35.below
    replace p_xs := p_xs.below hN35.below
    replace r_9 := r_9.below hN35.below
    have o_x10 := hN35.here
    refine K26 (yX b33 0 [(.int .i32 x18.1), (.int .i32 x18.2.1), (.int .i64 x18.2.2)] [(.int .i32 0), (.int .i32 0), (.int .i64 0)] [(.int .i32 x18.1), (.int .i32 x18.2.1), (.int .i64 x18.2.2)] 131) rfl (by kernel_rfl) o_x10 (by kernel_rfl) rfl ?_
    intro w36 hW37
    replace hb := hb.trans (hW37.below g_x10)
    replace hc := hc.trans2 (Ch.of_wrote hW37) (fun k e => e ▸ dk_x10)
    replace hs := Nat.le_trans hs (Nat.le_of_eq hW37.size.symm)
    replace o_m := zL o_m hW37 (zT o_m o_x10 (by simp))
    replace o_x3 := zL o_x3 hW37 (zT o_x3 o_x10 (by simp))
    replace p_xs := p_xs.wrote hW37 nb_o_x10_p_xs
    replace r_9 := r_9.wrote hW37 nb_o_x10_r_9
    replace o_x10 := hW37.here
    refine zE (zA (zF (zD (zI (K21 (zQ (.pointer (some ⟨b33, 1, none⟩))) (K22 (zZ b33 1 (.int .i32 x18.2.1)) (zM o_x10 rfl) (K21 (zQ (.pointer (some ⟨b1, 1, none⟩))) (K22 (zZ b1 1 (.int .i32 hi)) (zM o_x3 rfl) (K21 (L_min (k := .i32) x18.2.1 hi) (K21 (zQ (.pointer (some ⟨b33, 0, none⟩))) (K22 (zZ b33 0 (.int .i32 x18.1)) (zM o_x10 rfl) (K21 (zQ (.pointer (some ⟨b1, 0, none⟩))) (K22 (zZ b1 0 (.int .i32 lo)) (zM o_x3 rfl) (K21 (L_max (k := .i32) x18.1 lo) (K22 (xS (min x18.2.1 hi) (max x18.1 lo) ((min x18.2.1 hi) - (max x18.1 lo)) rfl) (wrap_i32 _ (by simp only [arithZ]; omega) (by simp only [arithZ]; omega)) (K12 (L_conv (k := .i32) ((min x18.2.1 hi) - (max x18.1 lo)) ((min x18.2.1 hi) - (max x18.1 lo)) (by kernel_rfl) Tryz.underlying3) (xL _ (by omega) (by omega)) (K22 (xS ((min x18.2.1 hi) - (max x18.1 lo)) 1 (((min x18.2.1 hi) - (max x18.1 lo)) + 1) rfl) (xL _ (by simp only [arithZ]; omega) (by simp only [arithZ]; omega)) (K22 (xS z (((min x18.2.1 hi) - (max x18.1 lo)) + 1) (z + (((min x18.2.1 hi) - (max x18.1 lo)) + 1)) rfl) (xL _ (by simp only [arithZ]; omega) (by simp only [arithZ]; omega)) (zJ (zE (zA (zF (zF (zD (K21 (zQ (.pointer (some ⟨b33, 0, none⟩))) (K22 (zZ b33 0 (.int .i32 x18.1)) (zM o_x10 rfl) (K21 (zQ (.pointer (some ⟨b1, 0, none⟩))) (K22 (zZ b1 0 (.int .i32 lo)) (zM o_x3 rfl) (K22 (yD .i32 x18.1 lo (x18.1 < lo) rfl (cmp_lt x18.1 lo)) ?_ ?_)))))))))))))))))))))))))))))
    ·intro h38
     replace h38 : x18.1 < lo := by omega
     refine zE (zA (K11 zS (zD (zI (K21 (zQ (.pointer (some ⟨b33, 0, none⟩))) (K22 (zZ b33 0 (.int .i32 x18.1)) (zM o_x10 rfl) (K21 (zQ (.pointer (some ⟨b1, 0, none⟩))) (K22 (zZ b1 0 (.int .i32 lo)) (zM o_x3 rfl) (K22 (xS lo 1 (lo - 1) rfl) (wrap_i32 _ (by simp only [arithZ]; omega) (by simp only [arithZ]; omega)) (K21 (zQ (.pointer (some ⟨b33, 2, none⟩))) (K22 (zZ b33 2 (.int .i64 x18.2.2)) (zM o_x10 rfl) (K21 (zQ (Value.agg #[(.int .i32 x18.1), (.int .i32 (lo - 1)), (.int .i64 x18.2.2)])) (K21 (L_app xJ B_ v_9 ys (x18.1, (lo - 1), x18.2.2) hs r_9 (by omega) (by kernel_rfl) rfl rfl (by kernel_rfl) rfl) ?_)))))))))))))
     intro v39 w40 hr41 hg42 how43
     have dr2 := dr_app (D := (Dm b_m v_xs)) how43 (by have h0 := hc.size; omega : (World.heap w).size ≤ (World.heap w36).size + 1) dr_r_9
     have nc_o_x10 := ownb_app how43 nb_o_x10_r_9 (yR o_x10)
     have nap_p_xs := ap_app p_xs how43 ap_p_xs_r_9
     replace hb := hb.grown hg42 hs (fun k hk => (World.ownsRow.lt r_9 k hk).1)
     replace hc := hc.trans2 (Ch.of_grown hg42) (fun k e => dr_r_9 k e)
     replace hs := Nat.le_trans hs (hg42.size)
     replace o_m := yF o_m hg42 (r_9.ne o_m (by simp))
     replace o_x3 := yF o_x3 hg42 (r_9.ne o_x3 (by simp))
     replace o_x10 := yF o_x10 hg42 nb_o_x10_r_9
     replace p_xs := p_xs.grown hg42 ap_p_xs_r_9
     have nb_o_x10_r_9 := nc_o_x10
     have ap_p_xs_r_9 := nap_p_xs; have ap_r_9_p_xs := ap_comm nap_p_xs
     replace r_9 := hr41
     have dr_r_9 := dr2; clear dr2
     refine zJ (zE (zA (zF (zD (K21 (zQ (.pointer (some ⟨b33, 1, none⟩))) (K22 (zZ b33 1 (.int .i32 x18.2.1)) (zM o_x10 rfl) (K21 (zQ (.pointer (some ⟨b1, 1, none⟩))) (K22 (zZ b1 1 (.int .i32 hi)) (zM o_x3 rfl) (K22 (yD .i32 x18.2.1 hi (hi < x18.2.1) rfl (cmp_gt x18.2.1 hi)) ?_ ?_)))))))))
     ·intro h44
      replace h44 : hi < x18.2.1 := by omega
      refine zE (zA (K11 zS (zD (zI (K21 (zQ (.pointer (some ⟨b1, 1, none⟩))) (K22 (zZ b1 1 (.int .i32 hi)) (zM o_x3 rfl) (K22 (xS hi 1 (hi + 1) rfl) (wrap_i32 _ (by simp only [arithZ]; omega) (by simp only [arithZ]; omega)) (K21 (zQ (.pointer (some ⟨b33, 1, none⟩))) (K22 (zZ b33 1 (.int .i32 x18.2.1)) (zM o_x10 rfl) (K21 (zQ (.pointer (some ⟨b33, 2, none⟩))) (K22 (zZ b33 2 (.int .i64 x18.2.2)) (zM o_x10 rfl) (K21 (zQ (Value.agg #[(.int .i32 (hi + 1)), (.int .i32 x18.2.1), (.int .i64 x18.2.2)])) (K21 (L_app xJ B_ v39 (ys ++ [(x18.1, (lo - 1), x18.2.2)]) ((hi + 1), x18.2.1, x18.2.2) hs r_9 (by (simp only [List.length_append, List.length_cons, List.length_nil] <;> omega)) (by kernel_rfl) rfl rfl (by kernel_rfl) rfl) ?_)))))))))))))
      intro v45 w46 hr47 hg48 how49
      have dr2 := dr_app (D := (Dm b_m v_xs)) how49 (by have h0 := hc.size; omega : (World.heap w).size ≤ (World.heap w40).size + 1) dr_r_9
      have nc_o_x10 := ownb_app how49 nb_o_x10_r_9 (yR o_x10)
      have nap_p_xs := ap_app p_xs how49 ap_p_xs_r_9
      replace hb := hb.grown hg48 hs (fun k hk => (World.ownsRow.lt r_9 k hk).1)
      replace hc := hc.trans2 (Ch.of_grown hg48) (fun k e => dr_r_9 k e)
      replace hs := Nat.le_trans hs (hg48.size)
      replace o_m := yF o_m hg48 (r_9.ne o_m (by simp))
      replace o_x3 := yF o_x3 hg48 (r_9.ne o_x3 (by simp))
      replace p_xs := p_xs.grown hg48 ap_p_xs_r_9
      have nb_o_x10_r_9 := nc_o_x10
      have ap_p_xs_r_9 := nap_p_xs; have ap_r_9_p_xs := ap_comm nap_p_xs
      replace r_9 := hr47
      have dr_r_9 := dr2; clear dr2
      refine zJ (zE (zP (zA (zD (zI (K21 (xD j 1 (by omega)) (zJ (zE ?_))))))))
      refine zA ⟨_, ?_, (j + 1), (z + (((min x18.2.1 hi) - (max x18.1 lo)) + 1)), ((ys ++ [(x18.1, (lo - 1), x18.2.2)]) ++ [((hi + 1), x18.2.1, x18.2.2)]), v45, rfl, hds, by kernel_rfl, by kernel_rfl, by kernel_rfl, by kernel_rfl, by kernel_rfl, by kernel_rfl, by kernel_rfl, by kernel_rfl, p_xs, r_9, o_m, o_x3, ap_p_xs_r_9, hb, hc, dr_r_9, hs, ?_⟩
      ·omega
      ·exact cut_11 hr (by omega) i1 (by assumption) (by omega) (by omega) (by omega) (by omega)
     ·intro h50
      replace h50 : x18.2.1 ≤ hi := by omega
      refine zE (zA (K11 zN (zV (zP (zA (zD (zI (K21 (xD j 1 (by omega)) (zJ (zE ?_))))))))))
      refine zA ⟨_, ?_, (j + 1), (z + (((min x18.2.1 hi) - (max x18.1 lo)) + 1)), (ys ++ [(x18.1, (lo - 1), x18.2.2)]), v39, rfl, hds, by kernel_rfl, by kernel_rfl, by kernel_rfl, by kernel_rfl, by kernel_rfl, by kernel_rfl, by kernel_rfl, by kernel_rfl, p_xs, r_9, o_m, o_x3, ap_p_xs_r_9, hb, hc, dr_r_9, hs, ?_⟩
      ·omega
      ·exact cut_10 hr (by omega) i1 (by assumption) (by omega) (by omega) (by omega) (by omega)
    ·intro h51
     replace h51 : lo ≤ x18.1 := by omega
     refine zE (zA (K11 zN (zV (zA (zF (zD (K21 (zQ (.pointer (some ⟨b33, 1, none⟩))) (K22 (zZ b33 1 (.int .i32 x18.2.1)) (zM o_x10 rfl) (K21 (zQ (.pointer (some ⟨b1, 1, none⟩))) (K22 (zZ b1 1 (.int .i32 hi)) (zM o_x3 rfl) (K22 (yD .i32 x18.2.1 hi (hi < x18.2.1) rfl (cmp_gt x18.2.1 hi)) ?_ ?_)))))))))))
     ·intro h52
      replace h52 : hi < x18.2.1 := by omega
      refine zE (zA (K11 zS (zD (zI (K21 (zQ (.pointer (some ⟨b1, 1, none⟩))) (K22 (zZ b1 1 (.int .i32 hi)) (zM o_x3 rfl) (K22 (xS hi 1 (hi + 1) rfl) (wrap_i32 _ (by simp only [arithZ]; omega) (by simp only [arithZ]; omega)) (K21 (zQ (.pointer (some ⟨b33, 1, none⟩))) (K22 (zZ b33 1 (.int .i32 x18.2.1)) (zM o_x10 rfl) (K21 (zQ (.pointer (some ⟨b33, 2, none⟩))) (K22 (zZ b33 2 (.int .i64 x18.2.2)) (zM o_x10 rfl) (K21 (zQ (Value.agg #[(.int .i32 (hi + 1)), (.int .i32 x18.2.1), (.int .i64 x18.2.2)])) (K21 (L_app xJ B_ v_9 ys ((hi + 1), x18.2.1, x18.2.2) hs r_9 (by omega) (by kernel_rfl) rfl rfl (by kernel_rfl) rfl) ?_)))))))))))))
      intro v53 w54 hr55 hg56 how57
      have dr2 := dr_app (D := (Dm b_m v_xs)) how57 (by have h0 := hc.size; omega : (World.heap w).size ≤ (World.heap w36).size + 1) dr_r_9
      have nc_o_x10 := ownb_app how57 nb_o_x10_r_9 (yR o_x10)
      have nap_p_xs := ap_app p_xs how57 ap_p_xs_r_9
      replace hb := hb.grown hg56 hs (fun k hk => (World.ownsRow.lt r_9 k hk).1)
      replace hc := hc.trans2 (Ch.of_grown hg56) (fun k e => dr_r_9 k e)
      replace hs := Nat.le_trans hs (hg56.size)
      replace o_m := yF o_m hg56 (r_9.ne o_m (by simp))
      replace o_x3 := yF o_x3 hg56 (r_9.ne o_x3 (by simp))
      replace p_xs := p_xs.grown hg56 ap_p_xs_r_9
      have nb_o_x10_r_9 := nc_o_x10
      have ap_p_xs_r_9 := nap_p_xs; have ap_r_9_p_xs := ap_comm nap_p_xs
      replace r_9 := hr55
      have dr_r_9 := dr2; clear dr2
      refine zJ (zE (zP (zA (zD (zI (K21 (xD j 1 (by omega)) (zJ (zE ?_))))))))
      refine zA ⟨_, ?_, (j + 1), (z + (((min x18.2.1 hi) - (max x18.1 lo)) + 1)), (ys ++ [((hi + 1), x18.2.1, x18.2.2)]), v53, rfl, hds, by kernel_rfl, by kernel_rfl, by kernel_rfl, by kernel_rfl, by kernel_rfl, by kernel_rfl, by kernel_rfl, by kernel_rfl, p_xs, r_9, o_m, o_x3, ap_p_xs_r_9, hb, hc, dr_r_9, hs, ?_⟩
      ·omega
      ·exact cut_01 hr (by omega) i1 (by assumption) (by omega) (by omega) (by omega) (by omega)
     ·intro h58
      replace h58 : x18.2.1 ≤ hi := by omega
      refine zE (zA (K11 zN (zV (zP (zA (zD (zI (K21 (xD j 1 (by omega)) (zJ (zE ?_))))))))))
      refine zA ⟨_, ?_, (j + 1), (z + (((min x18.2.1 hi) - (max x18.1 lo)) + 1)), ys, v_9, rfl, hds, by kernel_rfl, by kernel_rfl, by kernel_rfl, by kernel_rfl, by kernel_rfl, by kernel_rfl, by kernel_rfl, by kernel_rfl, p_xs, r_9, o_m, o_x3, ap_p_xs_r_9, hb, hc, dr_r_9, hs, ?_⟩
      ·omega
      ·exact cut_00 hr (by omega) i1 (by assumption) (by omega) (by omega) (by omega) (by omega)
   ·intro h59
    replace h59 : hi < x18.1 := by omega
    refine K11 xT (xF ?_)
    intro w60 hB61
    replace hb := hb.trans (hB61.mono hs)
    replace hc := hc.trans2 (Ch.of_below hB61) (fun _ h => h.elim)
    replace hs := Nat.le_trans hs (hB61.size)
    replace o_m := zB o_m hB61
    replace o_x3 := zB o_x3 hB61
    replace p_xs := p_xs.below hB61
    replace r_9 := r_9.below hB61
    refine zA (K11 zN (W_exit (yM (yM (xM (zA (zF (zD (zI (zI (K21 (zQ (.pointer (some ⟨b_m, 0, none⟩))) (K21 (zQ (.pointer (some ⟨b_m, 0, none⟩))) (K22 (zZ b_m 0 v_xs) (zM o_m rfl) (zI (zI (zI (K22 (yA 135 [v_xs, (.int .i64 (((fromG xs lo) : Nat) : Int)), (.int .i64 ((j : Nat) : Int)), v_9]) (c_replace_I B_ v_xs xs (fromG xs lo) j v_9 ys _ hs p_xs r_9.mono0 ap_r_9_p_xs (by omega) (by omega) (by omega) (by omega)) ?_)))))))))))))))))
    rintro q62 w63 ⟨_, rfl, r_q62, dm64, hC65⟩
    have dr_r_q62 := dr_call hc dm64 dr_p_xs
    replace hc := hc.trans2 hC65 (fun k e => dr_p_xs k e)
    replace hb := hC65.below hb hs (fun k e => (World.ownsRow.lt p_xs k e).1)
    replace hs := Nat.le_trans hs hC65.size
    have n_o_m := xP o_m hC65 (p_xs.ne o_m (by simp))
    have n_o_x3 := xP o_x3 hC65 (p_xs.ne o_x3 (by simp))
    have n_r_9 := r_9.ch_row hC65 ap_r_9_p_xs
    replace o_m := n_o_m; clear n_o_m
    refine K21 (zQ (.pointer (some ⟨b_m, 0, none⟩))) (K21 (zQ (.pointer (some ⟨b_m, 0, none⟩))) (K26 (xC b_m 0 q62 [v_xs, (.bool true)] [q62, (.bool true)] 118) r_q62.one (by kernel_rfl) o_m (by simp) rfl ?_))
    intro w66 hW67
    replace hb := hb.trans (hW67.below g_m)
    replace hc := hc.trans2 (Ch.of_wrote hW67) (fun k e => e ▸ dk_m)
    replace hs := Nat.le_trans hs (Nat.le_of_eq hW67.size.symm)
    replace r_q62 := r_q62.wrote hW67 (r_q62.ne o_m (by simp))
    replace o_m := hW67.here
    refine zE (zA (zF (zD (zI (zJ (zJ (zE (zA (zX ?_)))))))))
    refine zO [.tmp 4, .tmp 5] [(.int .i64 z), (.int .i64 0)] rfl hds ⟨by kernel_rfl, by kernel_rfl, trivial⟩ ?_
    have hE : ((z : Int) = (cutN xs lo hi)) ∧ ((0 : Int) = (layE lo hi)) ∧ ((List.take (fromG xs lo) xs ++ ys ++ List.drop j xs) = (cutM xs lo hi)) := ⟨(by (rw [cutN, if_neg (tnf (by assumption))]; first | exact (cutI_end i1 (by omega)).2 | exact (cutI_stop hr (by omega) i1 (by assumption) (by omega)).2)), (by (rw [layE, if_neg (tnf (by assumption))]; done)), (by (rw [cutM, if_neg (tnf (by assumption))]; first | exact (cutI_end i1 (by omega)).1 | exact (cutI_stop hr (by omega) i1 (by assumption) (by omega)).1))⟩
    exact ⟨_, xG (congrArg (Value.int .i64) hE.1) (congrArg (Value.int .i64) hE.2.1), o_m, r_q62.cast hE.2.2, dr_r_q62, hc⟩
  ·intro h68
   replace h68 : (xs).length ≤ j := by omega
   refine yI (K11 zW (K11 zW (K11 zW (K11 zW (K11 zW (K11 zW (K11 zW (K11 zW (K11 zW (K11 zW (K11 zW (K11 Lq_pickF (xF ?_)))))))))))))
   intro w69 hB70
   replace hb := hb.trans (hB70.mono hs)
   replace hc := hc.trans2 (Ch.of_below hB70) (fun _ h => h.elim)
   replace hs := Nat.le_trans hs (hB70.size)
   replace o_m := zB o_m hB70
   replace o_x3 := zB o_x3 hB70
   replace p_xs := p_xs.below hB70
   replace r_9 := r_9.below hB70
   refine zA (K11 zN (W_exit (yM (yM (xM (zA (zF (zD (zI (zI (K21 (zQ (.pointer (some ⟨b_m, 0, none⟩))) (K21 (zQ (.pointer (some ⟨b_m, 0, none⟩))) (K22 (zZ b_m 0 v_xs) (zM o_m rfl) (zI (zI (zI (K22 (yA 135 [v_xs, (.int .i64 (((fromG xs lo) : Nat) : Int)), (.int .i64 ((j : Nat) : Int)), v_9]) (c_replace_I B_ v_xs xs (fromG xs lo) j v_9 ys _ hs p_xs r_9.mono0 ap_r_9_p_xs (by omega) (by omega) (by omega) (by omega)) ?_)))))))))))))))))
   rintro q71 w72 ⟨_, rfl, r_q71, dm73, hC74⟩
   have dr_r_q71 := dr_call hc dm73 dr_p_xs
   replace hc := hc.trans2 hC74 (fun k e => dr_p_xs k e)
   replace hb := hC74.below hb hs (fun k e => (World.ownsRow.lt p_xs k e).1)
   replace hs := Nat.le_trans hs hC74.size
   have n_o_m := xP o_m hC74 (p_xs.ne o_m (by simp))
   have n_o_x3 := xP o_x3 hC74 (p_xs.ne o_x3 (by simp))
   have n_r_9 := r_9.ch_row hC74 ap_r_9_p_xs
   replace o_m := n_o_m; clear n_o_m
   refine K21 (zQ (.pointer (some ⟨b_m, 0, none⟩))) (K21 (zQ (.pointer (some ⟨b_m, 0, none⟩))) (K26 (xC b_m 0 q71 [v_xs, (.bool true)] [q71, (.bool true)] 118) r_q71.one (by kernel_rfl) o_m (by simp) rfl ?_))
   intro w75 hW76
   replace hb := hb.trans (hW76.below g_m)
   replace hc := hc.trans2 (Ch.of_wrote hW76) (fun k e => e ▸ dk_m)
   replace hs := Nat.le_trans hs (Nat.le_of_eq hW76.size.symm)
   replace r_q71 := r_q71.wrote hW76 (r_q71.ne o_m (by simp))
   replace o_m := hW76.here
   refine zE (zA (zF (zD (zI (zJ (zJ (zE (zA (zX ?_)))))))))
   refine zO [.tmp 4, .tmp 5] [(.int .i64 z), (.int .i64 0)] rfl hds ⟨by kernel_rfl, by kernel_rfl, trivial⟩ ?_
   have hE : ((z : Int) = (cutN xs lo hi)) ∧ ((0 : Int) = (layE lo hi)) ∧ ((List.take (fromG xs lo) xs ++ ys ++ List.drop j xs) = (cutM xs lo hi)) := ⟨(by (rw [cutN, if_neg (tnf (by assumption))]; first | exact (cutI_end i1 (by omega)).2 | exact (cutI_stop hr (by omega) i1 (by assumption) (by omega)).2)), (by (rw [layE, if_neg (tnf (by assumption))]; done)), (by (rw [cutM, if_neg (tnf (by assumption))]; first | exact (cutI_end i1 (by omega)).1 | exact (cutI_stop hr (by omega) i1 (by assumption) (by omega)).1))⟩
   exact ⟨_, xG (congrArg (Value.int .i64) hE.1) (congrArg (Value.int .i64) hE.2.1), o_m, r_q71.cast hE.2.2, dr_r_q71, hc⟩
 ·intro h77
  refine K11 (L_not false) (zJ (zE (zA (K11 zS (zF (zD (zJ (zJ (zE (zA (zX (zU (zH ?_)))))))))))))
  refine zO [.tmp 4, .tmp 5] [(.int .i64 0), (.int .i64 41)] rfl rfl ⟨by kernel_rfl, by kernel_rfl, trivial⟩ ?_
  have hE : ((0 : Int) = (cutN xs lo hi)) ∧ ((41 : Int) = (layE lo hi)) ∧ (xs = (cutM xs lo hi)) := ⟨(by (rw [cutN, if_pos (by assumption)]; done)), (by (rw [layE, if_pos (by assumption)]; done)), (by (rw [cutM, if_pos (by assumption)]; done))⟩
  exact ⟨_, xG (congrArg (Value.int .i64) hE.1) (congrArg (Value.int .i64) hE.2.1), o_m, p_xs.cast hE.2.2, dr_p_xs, hc⟩
theorem c_lay_I (b_m : Nat) (v_xs : Value) (xs : List (Int × Int × Int)) (lo : Int) (hi : Int) (val : Int) (B_ : Nat) (w : World) (hs0 : B_ ≤ w.heap.size) (o_m : w.heap[b_m]? = some (.cells [v_xs, (.bool true)].toArray 118 (0, 0))) (g_m : B_ ≤ b_m) (p_xs : Row w B_ 131 3 encSpanI v_xs xs) (hr : RiseG 0 xs) (hlo : -2147483648 ≤ lo ∧ lo ≤ 2147483647) (hhi : -2147483648 ≤ hi ∧ hi ≤ 2147483647) :
  Calls Tryz.prog 102 #[(.pointer (some ⟨b_m, 0, none⟩)), (Value.agg #[(.int .i32 lo), (.int .i32 hi)]), (.int .i64 val)] w (Ret fun v w' => ∃ q0 : Value, v = (.int .i64 (layE lo hi)) ∧ w'.heap[b_m]? = some (.cells [q0, (.bool true)].toArray 118 (0, 0)) ∧ Row w' B_ 131 3 encSpanI q0 (layF eqI xs lo hi val) ∧ (∀ g, Value.ownBlock q0 = some g → w.heap.size ≤ g ∨ (Dm b_m v_xs) g) ∧ Ch (Dm b_m v_xs) w w') := by
 refine K11 (enter (args := [(.pointer (some ⟨b_m, 0, none⟩)), (Value.agg #[(.int .i32 lo), (.int .i32 hi)]), (.int .i64 val)]) Tryz.func102 rfl (by kernel_rfl : _ = 128)) ?_
 have hb := Below.refl B_ w
 have hs : B_ ≤ (World.heap w).size := hs0
 have hc := Ch.refl (Dm b_m v_xs) w
 have dk_m : (World.heap w).size ≤ b_m ∨ (Dm b_m v_xs) b_m := .inr (.inl rfl)
 have dr_p_xs : ∀ g, Value.ownBlock v_xs = some g → (World.heap w).size ≤ g ∨ (Dm b_m v_xs) g := fun g h => .inr (.inr h)
 have hln := hr.len
 have hrc := cutF_rise (lo := lo) (hi := hi) hr
 have hlc := hrc.len
 refine zF (zD (K21 (yW (fun b => .pointer (some ⟨b, 0, none⟩)) (.cells [(.int .i32 lo), (.int .i32 hi)].toArray 32 (0, 0))) ?_))
 intro b1 w2 hN3
 have g_x4 : B_ ≤ b1 := by rw [hN3.num]; exact hs
 have dk_x4 : (World.heap w).size ≤ b1 ∨ (Dm b_m v_xs) b1 := .inl (by rw [hN3.num]; exact hc.size)
 replace hb := hb.trans (hN3.below.mono hs)
 replace hc := hc.trans2 (Ch.of_below hN3.below) (fun _ h => h.elim)
 replace hs := Nat.le_trans hs (hN3.below.size)
 replace o_m := zB o_m hN3.below
 replace p_xs := p_xs.below hN3.below
 have o_x4 := hN3.here
 refine zJ (zE (zA (zF (yP (zF (zD (zI (K22 (yA 72 [(.pointer (some ⟨b_m, 0, none⟩))]) (c_none_I b_m v_xs xs _ o_m p_xs.rd) ?_))))))))
 rintro _ w4 ⟨rfl, hB5⟩
 replace hb := hb.trans (hB5.mono hs)
 replace hc := hc.trans2 (Ch.of_below hB5) (fun _ h => h.elim)
 replace hs := Nat.le_trans hs (hB5.size)
 replace o_m := zB o_m hB5
 replace o_x4 := zB o_x4 hB5
 replace p_xs := p_xs.below hB5
 refine zJ (zE (zA (K11 zN (zF (zD (K32 (yH b1 0 [(.int .i32 lo), (.int .i32 hi)]) (K10 (yN o_x4 0)) (K22 (yA 64 [(Value.agg #[(.int .i32 lo), (.int .i32 hi)])]) (c_points_May lo hi _) ?_)))))))
 rintro _ w7 ⟨rfl, hB8⟩
 replace hb := hb.trans (hB8.mono hs)
 replace hc := hc.trans2 (Ch.of_below hB8) (fun _ h => h.elim)
 replace hs := Nat.le_trans hs (hB8.size)
 replace o_m := zB o_m hB8
 replace o_x4 := zB o_x4 hB8
 replace p_xs := p_xs.below hB8
 refine xK (mayF lo hi) ?_ ?_
 ·intro h10
  have hmb := mayG_b h10
  refine K11 (L_not true) (zJ (zE (zA (K11 zN (zV (zP (zA (zF (zD (zI (K32 (yH b1 0 [(.int .i32 lo), (.int .i32 hi)]) (K10 (yN o_x4 0)) (K22 (yA 134 [(.pointer (some ⟨b_m, 0, none⟩)), (Value.agg #[(.int .i32 lo), (.int .i32 hi)])]) (c_cut_I b_m v_xs xs lo hi B_ _ hs o_m g_m p_xs (by first | exact hr | exact hrc) (by omega) (by omega)) ?_))))))))))))
  rintro _ w12 ⟨q11, rfl, ho15, r_q11, dm13, hC14⟩
  have dr_r_q11 : ∀ g, Value.ownBlock q11 = some g → (World.heap w).size ≤ g ∨ (Dm b_m v_xs) g := fun g hg => (dm13 g hg).elim (fun x => .inl (Nat.le_trans hc.size x)) (fun x => x.elim (fun x => x ▸ dk_m) (fun x => dr_p_xs g x))
  replace hc := hc.trans2 hC14 (fun k e => e.elim (fun x => x ▸ dk_m) (fun x => dr_p_xs k x))
  replace hb := hC14.below hb hs (fun k e => e.elim (fun x => x ▸ g_m) (fun x => (World.ownsRow.lt p_xs k x).1))
  replace hs := Nat.le_trans hs hC14.size
  replace o_x4 := yL o_x4 hC14 (zT o_x4 o_m (by simp)) (p_xs.ne o_x4 (by simp))
  replace o_m := ho15
  refine zE (zA (zF (zD (K21 (zQ (.pointer (some ⟨b1, 0, none⟩))) (K22 (zZ b1 0 (.int .i32 lo)) (zM o_x4 rfl) (K21 (zQ (.pointer (some ⟨b1, 1, none⟩))) (K22 (zZ b1 1 (.int .i32 hi)) (zM o_x4 rfl) (zI (K21 (zQ (Value.agg #[(.int .i32 lo), (.int .i32 hi), (.int .i64 val)])) (K21 (yW (fun b => .pointer (some ⟨b, 0, none⟩)) (.cells [(.int .i32 0), (.int .i32 0), (.int .i64 0)].toArray 131 (0, 0))) ?_))))))))))
  intro b16 w17 hN18
  have g_x7 : B_ ≤ b16 := by rw [hN18.num]; exact hs
  have dk_x7 : (World.heap w).size ≤ b16 ∨ (Dm b_m v_xs) b16 := .inl (by rw [hN18.num]; exact hc.size)
  have nb_o_x7_r_q11 := r_q11.new_ne hN18
  replace hb := hb.trans (hN18.below.mono hs)
  replace hc := hc.trans2 (Ch.of_below hN18.below) (fun _ h => h.elim)
  replace hs := Nat.le_trans hs (hN18.below.size)
  replace o_m := zB o_m hN18.below
  replace o_x4 := zB o_x4 hN18.below
  replace r_q11 := r_q11.below hN18.below
  have o_x7 := hN18.here
  refine K26 (yX b16 0 [(.int .i32 lo), (.int .i32 hi), (.int .i64 val)] [(.int .i32 0), (.int .i32 0), (.int .i64 0)] [(.int .i32 lo), (.int .i32 hi), (.int .i64 val)] 131) rfl (by kernel_rfl) o_x7 (by kernel_rfl) rfl ?_
  intro w19 hW20
  replace hb := hb.trans (hW20.below g_x7)
  replace hc := hc.trans2 (Ch.of_wrote hW20) (fun k e => e ▸ dk_x7)
  replace hs := Nat.le_trans hs (Nat.le_of_eq hW20.size.symm)
  replace o_m := zL o_m hW20 (zT o_m o_x7 (by simp))
  replace o_x4 := zL o_x4 hW20 (zT o_x4 o_x7 (by simp))
  replace r_q11 := r_q11.wrote hW20 nb_o_x7_r_q11
  replace o_x7 := hW20.here
  refine zE (zA (zF (zD (zI (K21 (zQ (.pointer (some ⟨b1, 0, none⟩))) (K22 (zZ b1 0 (.int .i32 lo)) (zM o_x4 rfl) (K22 (yA 73 [(.pointer (some ⟨b_m, 0, none⟩)), (.int .i32 lo)]) (c_from_I b_m q11 (cutM xs lo hi) lo _ o_m r_q11.rd (by first | exact hr | exact hrc) (by omega)) ?_)))))))
  rintro _ w21 ⟨rfl, hB22⟩
  replace hb := hb.trans (hB22.mono hs)
  replace hc := hc.trans2 (Ch.of_below hB22) (fun _ h => h.elim)
  replace hs := Nat.le_trans hs (hB22.size)
  replace o_m := zB o_m hB22
  replace o_x4 := zB o_x4 hB22
  replace o_x7 := zB o_x7 hB22
  replace r_q11 := r_q11.below hB22
  have := fromG_le (cutM xs lo hi) lo
  refine zJ (zE (zA (zF (zD (zI (zJ (zE (zA ?_))))))))
  refine W_cut (fun s0 w0 => ∃ (a : Nat) (p : Int), (s0.ds = []) ∧ (s0.f 0 = (.pointer (some ⟨b_m, 0, none⟩))) ∧ (s0.f 2 = (.int .i64 val)) ∧ (s0.f 6 = (.int .i64 0)) ∧ (s0.f 7 = (.pointer (some ⟨b16, 0, none⟩))) ∧ (s0.f 9 = (.int .i64 (((fromG (cutM xs lo hi) lo) : Nat) : Int))) ∧ (s0.f 8 = (.int .i64 ((a : Nat) : Int))) ∧ (Row w0 B_ 131 3 encSpanI q11 (cutM xs lo hi)) ∧ (w0.heap[b_m]? = some (.cells [q11, (.bool true)].toArray 118 (0, 0))) ∧ (w0.heap[b1]? = some (.cells [(.int .i32 lo), (.int .i32 hi)].toArray 32 (0, 0))) ∧ (w0.heap[b16]? = some (.cells [(.int .i32 p), (.int .i32 hi), (.int .i64 val)].toArray 131 (0, 0))) ∧ (Below B_ w w0) ∧ (Ch (Dm b_m v_xs) w w0) ∧ (B_ ≤ w0.heap.size) ∧ (leftC eqI (cutM xs lo hi) lo val = (a, p)) ∧ (a ≤ fromG (cutM xs lo hi) lo)) ?_ ?_
  ·refine zF (K21 W_quiet (yI (K22 (Lq_cmp .i64 (((fromG (cutM xs lo hi) lo) : Nat) : Int) ((0 : Nat) : Int) (0 < (fromG (cutM xs lo hi) lo)) rfl (cmpN_gt (fromG (cutM xs lo hi) lo) 0)) ?_ ?_)))
   ·intro h24
    replace h24 : 0 < (fromG (cutM xs lo hi) lo) := by omega
    refine yI (K11 yB (yI (K11 yB (yS (.pointer (some ⟨b_m, 0, none⟩)) (fun _ => by kernel_rfl) (K11 yB (yS (.pointer (some ⟨b_m, 0, none⟩)) (fun _ => by kernel_rfl) (K11 yB (K13 (yY b_m 0 q11) (fun _ => by kernel_rfl) (zM o_m rfl) (K11 yB (yI (K11 yB (K21 (Lq_subN (fromG (cutM xs lo hi) lo) 1 (by omega) (by omega)) (K11 yB ?_)))))))))))))
    have hz := yT (cutM xs lo hi) ((fromG (cutM xs lo hi) lo) - 1) (by omega); obtain ⟨x25, hx26⟩ := hz
    have hz := (r_q11.rd).at (k := 3) (fun _ => rfl) hx26
    obtain ⟨g27, off28, hl29, hc30⟩ := hz
    have hre := hrc.at hx26
    refine K21 (Lq_ixaddr (k := .i64) q11 ((fromG (cutM xs lo hi) lo) - 1) _ g27 off28 xJ hl29 (by omega)) (K11 yB (yS (.pointer (some ⟨g27, ((off28 + ((fromG (cutM xs lo hi) lo) - 1) * 3) + 1), none⟩)) (fun _ => by kernel_rfl) (K11 yB (K13 (yY g27 ((off28 + ((fromG (cutM xs lo hi) lo) - 1) * 3) + 1) (.int .i32 x25.2.1)) (fun _ => by kernel_rfl) (hc30 1 _ rfl) (K11 yB (K22 (Lq_arith x25.2.1 1 (x25.2.1 + 1) rfl) (wrap_i32 _ (by simp only [arithZ]; omega) (by simp only [arithZ]; omega)) (K11 yB (yS (.pointer (some ⟨b16, 0, none⟩)) (fun _ => by kernel_rfl) (K11 yB (K13 (yY b16 0 (.int .i32 lo)) (fun _ => by kernel_rfl) (zM o_x7 rfl) (K11 yB (K22 (Lq_cmp .i32 (x25.2.1 + 1) lo ((x25.2.1 + 1) = lo) rfl (xB (x25.2.1 + 1) lo)) ?_ ?_))))))))))))
    ·intro h31
     replace h31 : (x25.2.1 + 1) = lo := by omega
     refine K11 xT (yI (K11 yB (yI (K11 yB (yS (.pointer (some ⟨b_m, 0, none⟩)) (fun _ => by kernel_rfl) (K11 yB (yS (.pointer (some ⟨b_m, 0, none⟩)) (fun _ => by kernel_rfl) (K11 yB (K13 (yY b_m 0 q11) (fun _ => by kernel_rfl) (zM o_m rfl) (K11 yB (yI (K11 yB (K21 (Lq_subN (fromG (cutM xs lo hi) lo) 1 (by omega) (by omega)) (K11 yB ?_))))))))))))))
     have hz := (r_q11.rd).at (k := 3) (fun _ => rfl) hx26
     obtain ⟨g34, off35, hl36, hc37⟩ := hz
     refine K21 (Lq_ixaddr (k := .i64) q11 ((fromG (cutM xs lo hi) lo) - 1) _ g34 off35 xJ hl36 (by omega)) (K11 yB (yS (.pointer (some ⟨g34, ((off35 + ((fromG (cutM xs lo hi) lo) - 1) * 3) + 2), none⟩)) (fun _ => by kernel_rfl) (K11 yB (K13 (yY g34 ((off35 + ((fromG (cutM xs lo hi) lo) - 1) * 3) + 2) (.int .i64 x25.2.2)) (fun _ => by kernel_rfl) (hc37 2 _ rfl) (K11 yB (yI (K11 yB (K22 (Lq_cmp .i64 x25.2.2 val (x25.2.2 = val) rfl (xB x25.2.2 val)) ?_ ?_))))))))
     ·intro h38
      replace h38 : x25.2.2 = val := by omega
      refine K11 xT (xF ?_)
      intro w39 hB40
      replace hb := hb.trans (hB40.mono hs)
      replace hc := hc.trans2 (Ch.of_below hB40) (fun _ h => h.elim)
      replace hs := Nat.le_trans hs (hB40.size)
      replace o_m := zB o_m hB40
      replace o_x4 := zB o_x4 hB40
      replace o_x7 := zB o_x7 hB40
      replace r_q11 := r_q11.below hB40
      refine zA (K11 zS (zF (zD (zI (K21 (L_subN (fromG (cutM xs lo hi) lo) 1 (by omega) (by omega)) (zJ (zE (zA (zD (zI (K21 (zQ (.pointer (some ⟨b_m, 0, none⟩))) (K21 (zQ (.pointer (some ⟨b_m, 0, none⟩))) (K22 (zZ b_m 0 q11) (zM o_m rfl) (zI ?_))))))))))))))
      have hz := (r_q11.rd).at (k := 3) (fun _ => rfl) hx26
      obtain ⟨g43, off44, hl45, hc46⟩ := hz
      refine K21 (xE (k := .i64) q11 ((fromG (cutM xs lo hi) lo) - 1) _ g43 off44 xJ hl45 (by omega)) (K21 (zQ (.pointer (some ⟨g43, (off44 + ((fromG (cutM xs lo hi) lo) - 1) * 3), none⟩))) (K22 (zZ g43 (off44 + ((fromG (cutM xs lo hi) lo) - 1) * 3) (.int .i32 x25.1)) (hc46 0 _ rfl) (K21 (zQ (.pointer (some ⟨b16, 0, none⟩))) (K26 (xC b16 0 (.int .i32 x25.1) [(.int .i32 lo), (.int .i32 hi), (.int .i64 val)] [(.int .i32 x25.1), (.int .i32 hi), (.int .i64 val)] 131) rfl (by kernel_rfl) o_x7 (by simp) rfl ?_))))
      intro w47 hW48
      replace hb := hb.trans (hW48.below g_x7)
      replace hc := hc.trans2 (Ch.of_wrote hW48) (fun k e => e ▸ dk_x7)
      replace hs := Nat.le_trans hs (Nat.le_of_eq hW48.size.symm)
      replace o_m := zL o_m hW48 (zT o_m o_x7 (by simp))
      replace o_x4 := zL o_x4 hW48 (zT o_x4 o_x7 (by simp))
      replace r_q11 := r_q11.wrote hW48 nb_o_x7_r_q11
      replace o_x7 := hW48.here
      refine zE ?_
      refine zA ⟨((fromG (cutM xs lo hi) lo) - 1), x25.1, rfl, by kernel_rfl, by kernel_rfl, by kernel_rfl, by kernel_rfl, by kernel_rfl, by kernel_rfl, r_q11, o_m, o_x4, o_x7, hb, hc, hs, ?_, ?_⟩
      ·exact leftC_yes (by omega) (by assumption) (by omega) (eqI_y (by assumption))
      ·omega
     ·intro h49
      replace h49 : x25.2.2 ≠ val := by omega
      refine K11 xT (xF ?_)
      intro w50 hB51
      replace hb := hb.trans (hB51.mono hs)
      replace hc := hc.trans2 (Ch.of_below hB51) (fun _ h => h.elim)
      replace hs := Nat.le_trans hs (hB51.size)
      replace o_m := zB o_m hB51
      replace o_x4 := zB o_x4 hB51
      replace o_x7 := zB o_x7 hB51
      replace r_q11 := r_q11.below hB51
      refine zA (K11 zN (zV ?_))
      refine zA ⟨(fromG (cutM xs lo hi) lo), lo, rfl, by kernel_rfl, by kernel_rfl, by kernel_rfl, by kernel_rfl, by kernel_rfl, by kernel_rfl, r_q11, o_m, o_x4, o_x7, hb, hc, hs, ?_, ?_⟩
      ·exact leftC_no (by omega) (by assumption) (.inr (eqI_n (by assumption)))
      ·omega
    ·intro h52
     replace h52 : (x25.2.1 + 1) ≠ lo := by omega
     refine K11 xT (yI (K11 zW (K11 zW (K11 zW (K11 zW (K11 zW (K11 zW (K11 zW (K11 zW (K11 zW (K11 zW (K11 zW (K11 Lq_pickF (xF ?_))))))))))))))
     intro w53 hB54
     replace hb := hb.trans (hB54.mono hs)
     replace hc := hc.trans2 (Ch.of_below hB54) (fun _ h => h.elim)
     replace hs := Nat.le_trans hs (hB54.size)
     replace o_m := zB o_m hB54
     replace o_x4 := zB o_x4 hB54
     replace o_x7 := zB o_x7 hB54
     replace r_q11 := r_q11.below hB54
     refine zA (K11 zN (zV ?_))
     refine zA ⟨(fromG (cutM xs lo hi) lo), lo, rfl, by kernel_rfl, by kernel_rfl, by kernel_rfl, by kernel_rfl, by kernel_rfl, by kernel_rfl, r_q11, o_m, o_x4, o_x7, hb, hc, hs, ?_, ?_⟩
     ·exact leftC_no (by omega) (by assumption) (.inl (by omega))
     ·omega
   ·intro h55
    replace h55 : (fromG (cutM xs lo hi) lo) ≤ 0 := by omega
    refine yI (K11 zW (K11 zW (K11 zW (K11 zW (K11 zW (K11 zW (K11 zW (K11 zW (K11 zW (K11 zW (K11 zW (K11 zW (K11 zW (K11 Lq_pickF (yI (K11 zW (K11 zW (K11 zW (K11 zW (K11 zW (K11 zW (K11 zW (K11 zW (K11 zW (K11 zW (K11 zW (K11 Lq_pickF (xF ?_))))))))))))))))))))))))))))
    intro w56 hB57
    replace hb := hb.trans (hB57.mono hs)
    replace hc := hc.trans2 (Ch.of_below hB57) (fun _ h => h.elim)
    replace hs := Nat.le_trans hs (hB57.size)
    replace o_m := zB o_m hB57
    replace o_x4 := zB o_x4 hB57
    replace o_x7 := zB o_x7 hB57
    replace r_q11 := r_q11.below hB57
    refine zA (K11 zN (zV ?_))
    refine zA ⟨(fromG (cutM xs lo hi) lo), lo, rfl, by kernel_rfl, by kernel_rfl, by kernel_rfl, by kernel_rfl, by kernel_rfl, by kernel_rfl, r_q11, o_m, o_x4, o_x7, hb, hc, hs, ?_, ?_⟩
    ·exact leftC_zero (by omega)
    ·omega
  ·rintro s58 w59 ⟨a, p, hds, f_0, f_2, f_6, f_7, f_9, f_8, r_q11, o_m, o_x4, o_x7, hb, hc, hs, jl, ja⟩
   refine yK 0 _ f_0 (yK 2 _ f_2 (yK 6 _ f_6 (yK 7 _ f_7 (yK 9 _ f_9 (yK 8 _ f_8 ?_)))))
   clear f_0 f_2 f_6 f_7 f_9 f_8
   refine W_cut (fun s0 w0 => ∃ (b : Nat) (q : Int), (s0.ds = []) ∧ (s0.f 0 = (.pointer (some ⟨b_m, 0, none⟩))) ∧ (s0.f 6 = (.int .i64 0)) ∧ (s0.f 7 = (.pointer (some ⟨b16, 0, none⟩))) ∧ (s0.f 8 = (.int .i64 ((a : Nat) : Int))) ∧ (s0.f 9 = (.int .i64 ((b : Nat) : Int))) ∧ (Row w0 B_ 131 3 encSpanI q11 (cutM xs lo hi)) ∧ (w0.heap[b_m]? = some (.cells [q11, (.bool true)].toArray 118 (0, 0))) ∧ (w0.heap[b1]? = some (.cells [(.int .i32 lo), (.int .i32 hi)].toArray 32 (0, 0))) ∧ (w0.heap[b16]? = some (.cells [(.int .i32 p), (.int .i32 q), (.int .i64 val)].toArray 131 (0, 0))) ∧ (Below B_ w w0) ∧ (Ch (Dm b_m v_xs) w w0) ∧ (B_ ≤ w0.heap.size) ∧ (rightC eqI (cutM xs lo hi) lo hi val = (b, q)) ∧ (fromG (cutM xs lo hi) lo ≤ b ∧ b ≤ ((cutM xs lo hi)).length)) ?_ ?_
   ·refine zF (K21 W_quiet (yI (yI (yS (.pointer (some ⟨b_m, 0, none⟩)) (fun _ => by kernel_rfl) (yS (.pointer (some ⟨b_m, 0, none⟩)) (fun _ => by kernel_rfl) (K13 (yY b_m 0 q11) (fun _ => by kernel_rfl) (zM o_m rfl) (K11 (Lq_len 116 131 ((cutM xs lo hi)).length q11 rfl Tryz.underlying116 (r_q11.rd).len) (K22 (Lq_cmp .i64 (((fromG (cutM xs lo hi) lo) : Nat) : Int) ((((cutM xs lo hi)).length : Nat) : Int) ((fromG (cutM xs lo hi) lo) < ((cutM xs lo hi)).length) rfl (cmpN_lt (fromG (cutM xs lo hi) lo) (((cutM xs lo hi)).length))) ?_ ?_))))))))
    ·intro h60
     replace h60 : (fromG (cutM xs lo hi) lo) < ((cutM xs lo hi)).length := by omega
     refine yI (K11 yB (yI (K11 yB (yS (.pointer (some ⟨b_m, 0, none⟩)) (fun _ => by kernel_rfl) (K11 yB (yS (.pointer (some ⟨b_m, 0, none⟩)) (fun _ => by kernel_rfl) (K11 yB (K13 (yY b_m 0 q11) (fun _ => by kernel_rfl) (zM o_m rfl) (K11 yB (yI (K11 yB ?_)))))))))))
     have hz := yT (cutM xs lo hi) (fromG (cutM xs lo hi) lo) (by omega); obtain ⟨x61, hx62⟩ := hz
     have hz := (r_q11.rd).at (k := 3) (fun _ => rfl) hx62
     obtain ⟨g63, off64, hl65, hc66⟩ := hz
     have hre := hrc.at hx62
     refine K21 (Lq_ixaddr (k := .i64) q11 (fromG (cutM xs lo hi) lo) _ g63 off64 xJ hl65 (by omega)) (K11 yB (yS (.pointer (some ⟨g63, (off64 + (fromG (cutM xs lo hi) lo) * 3), none⟩)) (fun _ => by kernel_rfl) (K11 yB (K13 (yY g63 (off64 + (fromG (cutM xs lo hi) lo) * 3) (.int .i32 x61.1)) (fun _ => by kernel_rfl) (hc66 0 _ rfl) (K11 yB (yS (.pointer (some ⟨b16, 1, none⟩)) (fun _ => by kernel_rfl) (K11 yB (K13 (yY b16 1 (.int .i32 hi)) (fun _ => by kernel_rfl) (zM o_x7 rfl) (K11 yB (K22 (Lq_arith hi 1 (hi + 1) rfl) (wrap_i32 _ (by simp only [arithZ]; omega) (by simp only [arithZ]; omega)) (K11 yB (K22 (Lq_cmp .i32 x61.1 (hi + 1) (x61.1 = (hi + 1)) rfl (xB x61.1 (hi + 1))) ?_ ?_))))))))))))
     ·intro h67
      replace h67 : x61.1 = (hi + 1) := by omega
      refine K11 xT (yI (K11 yB (yI (K11 yB (yS (.pointer (some ⟨b_m, 0, none⟩)) (fun _ => by kernel_rfl) (K11 yB (yS (.pointer (some ⟨b_m, 0, none⟩)) (fun _ => by kernel_rfl) (K11 yB (K13 (yY b_m 0 q11) (fun _ => by kernel_rfl) (zM o_m rfl) (K11 yB (yI (K11 yB ?_))))))))))))
      have hz := (r_q11.rd).at (k := 3) (fun _ => rfl) hx62
      obtain ⟨g70, off71, hl72, hc73⟩ := hz
      refine K21 (Lq_ixaddr (k := .i64) q11 (fromG (cutM xs lo hi) lo) _ g70 off71 xJ hl72 (by omega)) (K11 yB (yS (.pointer (some ⟨g70, ((off71 + (fromG (cutM xs lo hi) lo) * 3) + 2), none⟩)) (fun _ => by kernel_rfl) (K11 yB (K13 (yY g70 ((off71 + (fromG (cutM xs lo hi) lo) * 3) + 2) (.int .i64 x61.2.2)) (fun _ => by kernel_rfl) (hc73 2 _ rfl) (K11 yB (yI (K11 yB (K22 (Lq_cmp .i64 x61.2.2 val (x61.2.2 = val) rfl (xB x61.2.2 val)) ?_ ?_))))))))
      ·intro h74
       replace h74 : x61.2.2 = val := by omega
       refine K11 xT (xF ?_)
       intro w75 hB76
       replace hb := hb.trans (hB76.mono hs)
       replace hc := hc.trans2 (Ch.of_below hB76) (fun _ h => h.elim)
       replace hs := Nat.le_trans hs (hB76.size)
       replace o_m := zB o_m hB76
       replace o_x4 := zB o_x4 hB76
       replace o_x7 := zB o_x7 hB76
       replace r_q11 := r_q11.below hB76
       refine zA (K11 zS (zF (zD (zI (K21 (zQ (.pointer (some ⟨b_m, 0, none⟩))) (K21 (zQ (.pointer (some ⟨b_m, 0, none⟩))) (K22 (zZ b_m 0 q11) (zM o_m rfl) (zI ?_))))))))
       have hz := (r_q11.rd).at (k := 3) (fun _ => rfl) hx62
       obtain ⟨g79, off80, hl81, hc82⟩ := hz
       refine K21 (xE (k := .i64) q11 (fromG (cutM xs lo hi) lo) _ g79 off80 xJ hl81 (by omega)) (K21 (zQ (.pointer (some ⟨g79, ((off80 + (fromG (cutM xs lo hi) lo) * 3) + 1), none⟩))) (K22 (zZ g79 ((off80 + (fromG (cutM xs lo hi) lo) * 3) + 1) (.int .i32 x61.2.1)) (hc82 1 _ rfl) (K21 (zQ (.pointer (some ⟨b16, 1, none⟩))) (K26 (xC b16 1 (.int .i32 x61.2.1) [(.int .i32 p), (.int .i32 hi), (.int .i64 val)] [(.int .i32 p), (.int .i32 x61.2.1), (.int .i64 val)] 131) rfl (by kernel_rfl) o_x7 (by simp) rfl ?_))))
       intro w83 hW84
       replace hb := hb.trans (hW84.below g_x7)
       replace hc := hc.trans2 (Ch.of_wrote hW84) (fun k e => e ▸ dk_x7)
       replace hs := Nat.le_trans hs (Nat.le_of_eq hW84.size.symm)
       replace o_m := zL o_m hW84 (zT o_m o_x7 (by simp))
       replace o_x4 := zL o_x4 hW84 (zT o_x4 o_x7 (by simp))
       replace r_q11 := r_q11.wrote hW84 nb_o_x7_r_q11
       replace o_x7 := hW84.here
       refine zE (zA (zD (zI (K21 (xD (fromG (cutM xs lo hi) lo) 1 (by omega)) (zJ (zE ?_))))))
       refine zA ⟨((fromG (cutM xs lo hi) lo) + 1), x61.2.1, hds, by kernel_rfl, by kernel_rfl, by kernel_rfl, by kernel_rfl, by kernel_rfl, r_q11, o_m, o_x4, o_x7, hb, hc, hs, ?_, ?_⟩
       ·exact rightC_yes (by assumption) (by omega) (eqI_y (by assumption))
       ·omega
      ·intro h85
       replace h85 : x61.2.2 ≠ val := by omega
       refine K11 xT (xF ?_)
       intro w86 hB87
       replace hb := hb.trans (hB87.mono hs)
       replace hc := hc.trans2 (Ch.of_below hB87) (fun _ h => h.elim)
       replace hs := Nat.le_trans hs (hB87.size)
       replace o_m := zB o_m hB87
       replace o_x4 := zB o_x4 hB87
       replace o_x7 := zB o_x7 hB87
       replace r_q11 := r_q11.below hB87
       refine zA (K11 zN (zV ?_))
       refine zA ⟨(fromG (cutM xs lo hi) lo), hi, hds, by kernel_rfl, by kernel_rfl, by kernel_rfl, by kernel_rfl, by kernel_rfl, r_q11, o_m, o_x4, o_x7, hb, hc, hs, ?_, ?_⟩
       ·exact rightC_no (by assumption) (.inr (eqI_n (by assumption)))
       ·omega
     ·intro h88
      replace h88 : x61.1 ≠ (hi + 1) := by omega
      refine K11 xT (yI (K11 zW (K11 zW (K11 zW (K11 zW (K11 zW (K11 zW (K11 zW (K11 zW (K11 zW (K11 zW (K11 Lq_pickF (xF ?_)))))))))))))
      intro w89 hB90
      replace hb := hb.trans (hB90.mono hs)
      replace hc := hc.trans2 (Ch.of_below hB90) (fun _ h => h.elim)
      replace hs := Nat.le_trans hs (hB90.size)
      replace o_m := zB o_m hB90
      replace o_x4 := zB o_x4 hB90
      replace o_x7 := zB o_x7 hB90
      replace r_q11 := r_q11.below hB90
      refine zA (K11 zN (zV ?_))
      refine zA ⟨(fromG (cutM xs lo hi) lo), hi, hds, by kernel_rfl, by kernel_rfl, by kernel_rfl, by kernel_rfl, by kernel_rfl, r_q11, o_m, o_x4, o_x7, hb, hc, hs, ?_, ?_⟩
      ·exact rightC_no (by assumption) (.inl (by omega))
      ·omega
    ·intro h91
     replace h91 : ((cutM xs lo hi)).length ≤ (fromG (cutM xs lo hi) lo) := by omega
     refine yI (K11 zW (K11 zW (K11 zW (K11 zW (K11 zW (K11 zW (K11 zW (K11 zW (K11 zW (K11 zW (K11 zW (K11 zW (K11 Lq_pickF (yI (K11 zW (K11 zW (K11 zW (K11 zW (K11 zW (K11 zW (K11 zW (K11 zW (K11 zW (K11 zW (K11 Lq_pickF (xF ?_))))))))))))))))))))))))))
     intro w92 hB93
     replace hb := hb.trans (hB93.mono hs)
     replace hc := hc.trans2 (Ch.of_below hB93) (fun _ h => h.elim)
     replace hs := Nat.le_trans hs (hB93.size)
     replace o_m := zB o_m hB93
     replace o_x4 := zB o_x4 hB93
     replace o_x7 := zB o_x7 hB93
     replace r_q11 := r_q11.below hB93
     refine zA (K11 zN (zV ?_))
     refine zA ⟨(fromG (cutM xs lo hi) lo), hi, hds, by kernel_rfl, by kernel_rfl, by kernel_rfl, by kernel_rfl, by kernel_rfl, r_q11, o_m, o_x4, o_x7, hb, hc, hs, ?_, ?_⟩
     ·exact rightC_end (by omega)
     ·omega
   ·rintro s94 w95 ⟨b, q, hds, f_0, f_6, f_7, f_8, f_9, r_q11, o_m, o_x4, o_x7, hb, hc, hs, jr, jb⟩
    refine yK 0 _ f_0 (yK 6 _ f_6 (yK 7 _ f_7 (yK 8 _ f_8 (yK 9 _ f_9 ?_))))
    clear f_0 f_6 f_7 f_8 f_9
    refine zF (K21 (W_held 13) ?_)
    intro w96 hB97
    replace hb := hb.trans (hB97.mono hs)
    replace hc := hc.trans2 (Ch.of_below hB97) (fun _ h => h.elim)
    replace hs := Nat.le_trans hs (hB97.size)
    replace o_m := zB o_m hB97
    replace o_x4 := zB o_x4 hB97
    replace o_x7 := zB o_x7 hB97
    replace r_q11 := r_q11.below hB97
    refine ⟨fun w2 => Ch (Dm b_m q11) w96 w2, ?_⟩
    have hS : Ch (Dm b_m q11) w96 w96 := Ch.refl _ _
    refine K35 (xA 0 (.pointer (some ⟨b_m, 0, none⟩)) rfl) (by repeat first | exact zR | exact zK | apply zC | apply zG) hS (by kernel_rfl) (fun _ _ => by kernel_rfl) ?_
    refine K35 (xA 1 (.pointer (some ⟨b_m, 0, none⟩)) rfl) (by repeat first | exact zR | exact zK | apply zC | apply zG) hS (by kernel_rfl) (fun _ _ => by kernel_rfl) ?_
    refine K35 (xA 2 (.pointer (some ⟨b_m, 0, none⟩)) rfl) (by repeat first | exact zR | exact zK | apply zC | apply zG) hS (by kernel_rfl) (fun _ _ => by kernel_rfl) ?_
    refine K35 (xA 3 (.pointer (some ⟨b_m, 0, none⟩)) rfl) (by repeat first | exact zR | exact zK | apply zC | apply zG) hS (by kernel_rfl) (fun _ _ => by kernel_rfl) ?_
    refine K35 (xA 5 (.int .i64 ((a : Nat) : Int)) rfl) (by repeat first | exact zR | exact zK | apply zC | apply zG) hS (by kernel_rfl) (fun _ _ => by kernel_rfl) ?_
    refine K35 (xA 6 (.int .i64 ((b : Nat) : Int)) rfl) (by repeat first | exact zR | exact zK | apply zC | apply zG) hS (by kernel_rfl) (fun _ _ => by kernel_rfl) ?_
    refine K35 (xA 7 (Value.agg #[(.int .i32 p), (.int .i32 q), (.int .i64 val)]) rfl) (by repeat first | exact zR | exact zK | apply zC | apply zG) hS (by kernel_rfl) (K13 (R_loadA b16 0 [(.int .i32 p), (.int .i32 q), (.int .i64 val)]) (fun _ => by kernel_rfl) (fun _ => by kernel_rfl) (fun w2 h2 => yN (yL o_x7 h2 (zT o_x7 o_m (by simp)) nb_o_x7_r_q11) 0 (by kernel_rfl))) ?_
    refine K12 (H_all2 4 8) ?_ ?_
    ·skip
     refine K12 (H_op 4 rfl) plain_load ?_
     refine K22 (zZ b_m 0 q11) (zM o_m rfl) (zE ?_)
     refine ⟨rfl, hS, ?_⟩
     refine K11 (H_all1 8) ?_
     refine K21 (H_op 8 rfl) ?_
     refine K21 (yW (fun b => .slice (some ⟨b, 0, none⟩) 1 1) (.cells [(.int .i32 p), (.int .i32 q), (.int .i64 val)].toArray 131 (0, 0))) ?_
     intro b98 w99 hN100
     have g_b98 : B_ ≤ b98 := by rw [hN100.num]; exact hs
     have ap_r_q11_r_b98 : Value.ownBlock q11 = none ∨ Value.ownBlock q11 ≠ Value.ownBlock (.slice (some ⟨b98, 0, none⟩) 1 1) := .inr (r_q11.new_ne hN100)
     have ap_r_b98_r_q11 := ap_comm ap_r_q11_r_b98
     have dr_r_b98 : ∀ g, Value.ownBlock (.slice (some ⟨b98, 0, none⟩) 1 1) = some g → (World.heap w).size ≤ g ∨ (Dm b_m v_xs) g := fun g h => .inl (by cases h; rw [hN100.num]; exact hc.size)
     replace hb := hb.trans (hN100.below.mono hs)
     replace hS := hS.trans2 (Ch.of_below hN100.below) (fun _ h => h.elim)
     replace hc := hc.trans2 (Ch.of_below hN100.below) (fun _ h => h.elim)
     replace hs := Nat.le_trans hs (hN100.below.size)
     replace o_m := zB o_m hN100.below
     replace o_x4 := zB o_x4 hN100.below
     replace o_x7 := zB o_x7 hN100.below
     replace r_q11 := r_q11.below hN100.below
     have r_b98 : Row w99 B_ 131 3 encSpanI (.slice (some ⟨b98, 0, none⟩) 1 1) ([(p, q, val)] : List (Int × Int × Int)) := Row.made ([(p, q, val)] : List (Int × Int × Int)) hN100 g_b98 rfl rfl (by first | decide | (simp; done))
     refine zE ?_
     refine ⟨rfl, hS, ?_⟩
     refine K11 (H_all1 9) ?_
     refine K21 (H_op 9 rfl) ?_
     refine K22 (yA 135 [q11, (.int .i64 ((a : Nat) : Int)), (.int .i64 ((b : Nat) : Int)), (.slice (some ⟨b98, 0, none⟩) 1 1)]) (c_replace_I B_ q11 (cutM xs lo hi) a b (.slice (some ⟨b98, 0, none⟩) 1 1) ([(p, q, val)] : List (Int × Int × Int)) _ hs r_q11 r_b98.mono0 ap_r_b98_r_q11 (by omega) (by omega) (by omega) (by first | omega | simp)) ?_
     rintro q101 w102 ⟨_, rfl, r_q101, dm103, hC104⟩
     have dr_r_q101 := dr_call hc dm103 dr_r_q11
     replace hc := hc.trans2 hC104 (fun k e => dr_r_q11 k e)
     replace hb := hC104.below hb hs (fun k e => (World.ownsRow.lt r_q11 k e).1)
     replace hs := Nat.le_trans hs hC104.size
     replace hS := hS.trans2 hC104 (fun k e => .inr (.inr e))
     have n_o_m := xP o_m hC104 (r_q11.ne o_m (by simp))
     have n_o_x4 := xP o_x4 hC104 (r_q11.ne o_x4 (by simp))
     have nb_o_x7_r_q101 := nb_mutrow o_x7 dm103 nb_o_x7_r_q11
     have n_o_x7 := xP o_x7 hC104 nb_o_x7_r_q11
     have n_r_b98 := r_b98.ch_row hC104 ap_r_b98_r_q11
     replace o_m := n_o_m; clear n_o_m
     refine zE ?_
     refine ⟨rfl, hS, ?_⟩
     refine K35 (xA 10 (.pointer (some ⟨b_m, 0, none⟩)) rfl) (by repeat first | exact zR | exact zK | apply zC | apply zG) hS (by kernel_rfl) (fun _ _ => by kernel_rfl) ?_
     refine K35 (xA 11 (.pointer (some ⟨b_m, 0, none⟩)) rfl) (by repeat first | exact zR | exact zK | apply zC | apply zG) hS (by kernel_rfl) (fun _ _ => by kernel_rfl) ?_
     refine K11 (H_all1 12) ?_
     refine K12 (H_op 12 rfl) plain_store ?_
     refine K26 (xC b_m 0 q101 [q11, (.bool true)] [q101, (.bool true)] 118) r_q101.one (by kernel_rfl) o_m (by simp) rfl ?_
     intro w105 hW106
     replace hb := hb.trans (hW106.below g_m)
     replace hS := hS.trans2 (Ch.of_wrote hW106) (fun k e => .inr (.inl e))
     replace hc := hc.trans2 (Ch.of_wrote hW106) (fun k e => e ▸ dk_m)
     replace hs := Nat.le_trans hs (Nat.le_of_eq hW106.size.symm)
     replace r_q101 := r_q101.wrote hW106 (r_q101.ne o_m (by simp))
     replace o_m := hW106.here
     refine zE ?_
     refine ⟨rfl, hS, ?_⟩
     refine K11 H_done ?_
     refine zA (zF (zD (zJ (zE (zA (zX ?_))))))
     refine zO [.tmp 6] [(.int .i64 0)] rfl hds ⟨by kernel_rfl, trivial⟩ ?_
     have hE : ((0 : Int) = (layE lo hi)) ∧ ((List.take a (cutM xs lo hi) ++ ([(p, q, val)] : List (Int × Int × Int)) ++ List.drop b (cutM xs lo hi)) = (layF eqI xs lo hi val)) := ⟨(by (rw [layE, if_neg (tnf (by assumption))]; done)), (by (rw [layF, if_neg (tnf (by assumption)), layG, show cutG lo hi xs = cutM xs lo hi from (by rw [cutM, if_neg (tnf (by assumption))])]; exact layC_mk jl jr))⟩
     exact ⟨_, congrArg (Value.int .i64) hE.1, o_m, r_q101.cast hE.2, dr_r_q101, hc⟩
    ·skip
     refine K21 (H_op 8 rfl) ?_
     refine K21 (yW (fun b => .slice (some ⟨b, 0, none⟩) 1 1) (.cells [(.int .i32 p), (.int .i32 q), (.int .i64 val)].toArray 131 (0, 0))) ?_
     intro b107 w108 hN109
     have g_b107 : B_ ≤ b107 := by rw [hN109.num]; exact hs
     have ap_r_q11_r_b107 : Value.ownBlock q11 = none ∨ Value.ownBlock q11 ≠ Value.ownBlock (.slice (some ⟨b107, 0, none⟩) 1 1) := .inr (r_q11.new_ne hN109)
     have ap_r_b107_r_q11 := ap_comm ap_r_q11_r_b107
     have dr_r_b107 : ∀ g, Value.ownBlock (.slice (some ⟨b107, 0, none⟩) 1 1) = some g → (World.heap w).size ≤ g ∨ (Dm b_m v_xs) g := fun g h => .inl (by cases h; rw [hN109.num]; exact hc.size)
     replace hb := hb.trans (hN109.below.mono hs)
     replace hS := hS.trans2 (Ch.of_below hN109.below) (fun _ h => h.elim)
     replace hc := hc.trans2 (Ch.of_below hN109.below) (fun _ h => h.elim)
     replace hs := Nat.le_trans hs (hN109.below.size)
     replace o_m := zB o_m hN109.below
     replace o_x4 := zB o_x4 hN109.below
     replace o_x7 := zB o_x7 hN109.below
     replace r_q11 := r_q11.below hN109.below
     have r_b107 : Row w108 B_ 131 3 encSpanI (.slice (some ⟨b107, 0, none⟩) 1 1) ([(p, q, val)] : List (Int × Int × Int)) := Row.made ([(p, q, val)] : List (Int × Int × Int)) hN109 g_b107 rfl rfl (by first | decide | (simp; done))
     refine zE ?_
     refine ⟨rfl, hS, ?_⟩
     refine K11 (H_all1 4) ?_
     refine K12 (H_op 4 rfl) plain_load ?_
     refine K22 (zZ b_m 0 q11) (zM o_m rfl) (zE ?_)
     refine ⟨rfl, hS, ?_⟩
     refine K11 (H_all1 9) ?_
     refine K21 (H_op 9 rfl) ?_
     refine K22 (yA 135 [q11, (.int .i64 ((a : Nat) : Int)), (.int .i64 ((b : Nat) : Int)), (.slice (some ⟨b107, 0, none⟩) 1 1)]) (c_replace_I B_ q11 (cutM xs lo hi) a b (.slice (some ⟨b107, 0, none⟩) 1 1) ([(p, q, val)] : List (Int × Int × Int)) _ hs r_q11 r_b107.mono0 ap_r_b107_r_q11 (by omega) (by omega) (by omega) (by first | omega | simp)) ?_
     rintro q110 w111 ⟨_, rfl, r_q110, dm112, hC113⟩
     have dr_r_q110 := dr_call hc dm112 dr_r_q11
     replace hc := hc.trans2 hC113 (fun k e => dr_r_q11 k e)
     replace hb := hC113.below hb hs (fun k e => (World.ownsRow.lt r_q11 k e).1)
     replace hs := Nat.le_trans hs hC113.size
     replace hS := hS.trans2 hC113 (fun k e => .inr (.inr e))
     have n_o_m := xP o_m hC113 (r_q11.ne o_m (by simp))
     have n_o_x4 := xP o_x4 hC113 (r_q11.ne o_x4 (by simp))
     have nb_o_x7_r_q110 := nb_mutrow o_x7 dm112 nb_o_x7_r_q11
     have n_o_x7 := xP o_x7 hC113 nb_o_x7_r_q11
     have n_r_b107 := r_b107.ch_row hC113 ap_r_b107_r_q11
     replace o_m := n_o_m; clear n_o_m
     refine zE ?_
     refine ⟨rfl, hS, ?_⟩
     refine K35 (xA 10 (.pointer (some ⟨b_m, 0, none⟩)) rfl) (by repeat first | exact zR | exact zK | apply zC | apply zG) hS (by kernel_rfl) (fun _ _ => by kernel_rfl) ?_
     refine K35 (xA 11 (.pointer (some ⟨b_m, 0, none⟩)) rfl) (by repeat first | exact zR | exact zK | apply zC | apply zG) hS (by kernel_rfl) (fun _ _ => by kernel_rfl) ?_
     refine K11 (H_all1 12) ?_
     refine K12 (H_op 12 rfl) plain_store ?_
     refine K26 (xC b_m 0 q110 [q11, (.bool true)] [q110, (.bool true)] 118) r_q110.one (by kernel_rfl) o_m (by simp) rfl ?_
     intro w114 hW115
     replace hb := hb.trans (hW115.below g_m)
     replace hS := hS.trans2 (Ch.of_wrote hW115) (fun k e => .inr (.inl e))
     replace hc := hc.trans2 (Ch.of_wrote hW115) (fun k e => e ▸ dk_m)
     replace hs := Nat.le_trans hs (Nat.le_of_eq hW115.size.symm)
     replace r_q110 := r_q110.wrote hW115 (r_q110.ne o_m (by simp))
     replace o_m := hW115.here
     refine zE ?_
     refine ⟨rfl, hS, ?_⟩
     refine K11 H_done ?_
     refine zA (zF (zD (zJ (zE (zA (zX ?_))))))
     refine zO [.tmp 6] [(.int .i64 0)] rfl hds ⟨by kernel_rfl, trivial⟩ ?_
     have hE : ((0 : Int) = (layE lo hi)) ∧ ((List.take a (cutM xs lo hi) ++ ([(p, q, val)] : List (Int × Int × Int)) ++ List.drop b (cutM xs lo hi)) = (layF eqI xs lo hi val)) := ⟨(by (rw [layE, if_neg (tnf (by assumption))]; done)), (by (rw [layF, if_neg (tnf (by assumption)), layG, show cutG lo hi xs = cutM xs lo hi from (by rw [cutM, if_neg (tnf (by assumption))])]; exact layC_mk jl jr))⟩
     exact ⟨_, congrArg (Value.int .i64) hE.1, o_m, r_q110.cast hE.2, dr_r_q110, hc⟩
 ·intro h116
  refine K11 (L_not false) (zJ (zE (zA (K11 zS (zF (zD (zJ (zE (zA (zX (zU (zH ?_))))))))))))
  refine zO [.tmp 6] [(.int .i64 41)] rfl rfl ⟨by kernel_rfl, trivial⟩ ?_
  have hE : ((41 : Int) = (layE lo hi)) ∧ (xs = (layF eqI xs lo hi val)) := ⟨(by (rw [layE, if_pos (by assumption)]; done)), (by (rw [layF, if_pos (by assumption)]; done))⟩
  exact ⟨_, congrArg (Value.int .i64) hE.1, o_m, p_xs.cast hE.2, dr_p_xs, hc⟩
theorem c_put_I (b_m : Nat) (v_xs : Value) (xs : List (Int × Int × Int)) (lo : Int) (hi : Int) (val : Int) (B_ : Nat) (w : World) (hs0 : B_ ≤ w.heap.size) (o_m : w.heap[b_m]? = some (.cells [v_xs, (.bool true)].toArray 118 (0, 0))) (g_m : B_ ≤ b_m) (p_xs : Row w B_ 131 3 encSpanI v_xs xs) (hr : RiseG 0 xs) (hlo : -2147483648 ≤ lo ∧ lo ≤ 2147483647) (hhi : -2147483648 ≤ hi ∧ hi ≤ 2147483647) :
  Calls Tryz.prog 61 #[(.pointer (some ⟨b_m, 0, none⟩)), (Value.agg #[(.int .i32 lo), (.int .i32 hi)]), (.int .i64 val)] w (Ret fun v w' => ∃ q0 : Value, v = (.int .i64 (putE xs lo hi)) ∧ w'.heap[b_m]? = some (.cells [q0, (.bool true)].toArray 118 (0, 0)) ∧ Row w' B_ 131 3 encSpanI q0 (putF eqI xs lo hi val) ∧ (∀ g, Value.ownBlock q0 = some g → w.heap.size ≤ g ∨ (Dm b_m v_xs) g) ∧ Ch (Dm b_m v_xs) w w') := by
 refine K11 (enter (args := [(.pointer (some ⟨b_m, 0, none⟩)), (Value.agg #[(.int .i32 lo), (.int .i32 hi)]), (.int .i64 val)]) Tryz.func61 rfl (by kernel_rfl : _ = 29)) ?_
 have hb := Below.refl B_ w
 have hs : B_ ≤ (World.heap w).size := hs0
 have hc := Ch.refl (Dm b_m v_xs) w
 have dk_m : (World.heap w).size ≤ b_m ∨ (Dm b_m v_xs) b_m := .inr (.inl rfl)
 have dr_p_xs : ∀ g, Value.ownBlock v_xs = some g → (World.heap w).size ≤ g ∨ (Dm b_m v_xs) g := fun g h => .inr (.inr h)
 have hln := hr.len
 refine zF (zD (K21 (yW (fun b => .pointer (some ⟨b, 0, none⟩)) (.cells [(.int .i32 lo), (.int .i32 hi)].toArray 32 (0, 0))) ?_))
 intro b1 w2 hN3
 have g_x4 : B_ ≤ b1 := by rw [hN3.num]; exact hs
 have dk_x4 : (World.heap w).size ≤ b1 ∨ (Dm b_m v_xs) b1 := .inl (by rw [hN3.num]; exact hc.size)
 replace hb := hb.trans (hN3.below.mono hs)
 replace hc := hc.trans2 (Ch.of_below hN3.below) (fun _ h => h.elim)
 replace hs := Nat.le_trans hs (hN3.below.size)
 replace o_m := zB o_m hN3.below
 replace p_xs := p_xs.below hN3.below
 have o_x4 := hN3.here
 refine zJ (zE (zA (zF (yP (zF (zD (zI (K22 (yA 72 [(.pointer (some ⟨b_m, 0, none⟩))]) (c_none_I b_m v_xs xs _ o_m p_xs.rd) ?_))))))))
 rintro _ w4 ⟨rfl, hB5⟩
 replace hb := hb.trans (hB5.mono hs)
 replace hc := hc.trans2 (Ch.of_below hB5) (fun _ h => h.elim)
 replace hs := Nat.le_trans hs (hB5.size)
 replace o_m := zB o_m hB5
 replace o_x4 := zB o_x4 hB5
 replace p_xs := p_xs.below hB5
 refine zJ (zE (zA (K11 zN (zF (zD (K32 (yH b1 0 [(.int .i32 lo), (.int .i32 hi)]) (K10 (yN o_x4 0)) (K22 (yA 64 [(Value.agg #[(.int .i32 lo), (.int .i32 hi)])]) (c_points_May lo hi _) ?_)))))))
 rintro _ w7 ⟨rfl, hB8⟩
 replace hb := hb.trans (hB8.mono hs)
 replace hc := hc.trans2 (Ch.of_below hB8) (fun _ h => h.elim)
 replace hs := Nat.le_trans hs (hB8.size)
 replace o_m := zB o_m hB8
 replace o_x4 := zB o_x4 hB8
 replace p_xs := p_xs.below hB8
 refine xK (mayF lo hi) ?_ ?_
 ·intro h10
  have hmb := mayG_b h10
  refine K11 (L_not true) (zJ (zE (zA (K11 zN (zV (zP (zA (zF (zF (zD (zI (K32 (yH b1 0 [(.int .i32 lo), (.int .i32 hi)]) (K10 (yN o_x4 0)) (K22 (yA 101 [(.pointer (some ⟨b_m, 0, none⟩)), (Value.agg #[(.int .i32 lo), (.int .i32 hi)])]) (c_meets_I b_m v_xs xs lo hi _ o_m p_xs.rd (by exact hr) (by omega)) ?_)))))))))))))
  rintro _ w11 ⟨rfl, hB12⟩
  replace hb := hb.trans (hB12.mono hs)
  replace hc := hc.trans2 (Ch.of_below hB12) (fun _ h => h.elim)
  replace hs := Nat.le_trans hs (hB12.size)
  replace o_m := zB o_m hB12
  replace o_x4 := zB o_x4 hB12
  replace p_xs := p_xs.below hB12
  refine zI (K21 (zQ (Value.agg #[(.int .i32 ((metV 0 (metG xs lo hi)).1)), (.int .i32 ((metV 0 (metG xs lo hi)).2.1))])) (K21 (zQ (.int .i64 ((metV 0 (metG xs lo hi)).2.2.1))) (K21 (zQ (.bool ((metV 0 (metG xs lo hi)).2.2.2))) (K21 (yW (fun b => .pointer (some ⟨b, 0, none⟩)) (.cells [(.int .i32 0), (.int .i32 0)].toArray 32 (0, 0))) ?_))))
  intro b14 w15 hN16
  have ne_x4_x7 : NE b1 b14 := by have := (yR o_x4); have := hN16.num; show _ ≠ _; omega
  have g_x7 : B_ ≤ b14 := by rw [hN16.num]; exact hs
  have dk_x7 : (World.heap w).size ≤ b14 ∨ (Dm b_m v_xs) b14 := .inl (by rw [hN16.num]; exact hc.size)
  replace hb := hb.trans (hN16.below.mono hs)
  replace hc := hc.trans2 (Ch.of_below hN16.below) (fun _ h => h.elim)
  replace hs := Nat.le_trans hs (hN16.below.size)
  replace o_m := zB o_m hN16.below
  replace o_x4 := zB o_x4 hN16.below
  replace p_xs := p_xs.below hN16.below
  have o_x7 := hN16.here
  refine K26 (yX b14 0 [(.int .i32 ((metV 0 (metG xs lo hi)).1)), (.int .i32 ((metV 0 (metG xs lo hi)).2.1))] [(.int .i32 0), (.int .i32 0)] [(.int .i32 ((metV 0 (metG xs lo hi)).1)), (.int .i32 ((metV 0 (metG xs lo hi)).2.1))] 32) rfl (by kernel_rfl) o_x7 (by kernel_rfl) rfl ?_
  intro w17 hW18
  replace hb := hb.trans (hW18.below g_x7)
  replace hc := hc.trans2 (Ch.of_wrote hW18) (fun k e => e ▸ dk_x7)
  replace hs := Nat.le_trans hs (Nat.le_of_eq hW18.size.symm)
  replace o_m := zL o_m hW18 (zT o_m o_x7 (by simp))
  replace o_x4 := zL o_x4 hW18 ne_x4_x7
  replace p_xs := p_xs.wrote hW18 (p_xs.ne o_x7 (by simp))
  refine zJ (zJ (zE (zA (zF (zD (zI (zE (zA ?_))))))))
  rcases Bool.eq_false_or_eq_true ((metV 0 (metG xs lo hi)).2.2.2) with hc19 | hc19
  ·skip
   refine K11 (W_ifT hc19) (zF (zD (zJ (zE (zA (zX (zH ?_)))))))
   refine zO [.tmp 6] [(.int .i64 42)] rfl rfl ⟨by kernel_rfl, trivial⟩ ?_
   have hE : ((42 : Int) = (putE xs lo hi)) ∧ (xs = (putF eqI xs lo hi val)) := ⟨(by exact (put_metG (eq := eqI) (v := val) (z := 0) (by assumption) (by assumption)).1), (by exact (put_metG (z := 0) (by assumption) (by assumption)).2)⟩
   exact ⟨_, congrArg (Value.int .i64) hE.1, o_m, p_xs.cast hE.2, dr_p_xs, hc⟩
  ·skip
   refine K11 (W_ifF hc19) (zV (zA (zF (zD (zI (K32 (yH b1 0 [(.int .i32 lo), (.int .i32 hi)]) (K10 (yN o_x4 0)) (zI (K22 (yA 102 [(.pointer (some ⟨b_m, 0, none⟩)), (Value.agg #[(.int .i32 lo), (.int .i32 hi)]), (.int .i64 val)]) (c_lay_I b_m v_xs xs lo hi val B_ _ hs o_m g_m p_xs (by exact hr) (by omega) (by omega)) ?_))))))))
   rintro _ w21 ⟨q20, rfl, ho24, r_q20, dm22, hC23⟩
   have dr_r_q20 : ∀ g, Value.ownBlock q20 = some g → (World.heap w).size ≤ g ∨ (Dm b_m v_xs) g := fun g hg => (dm22 g hg).elim (fun x => .inl (Nat.le_trans hc.size x)) (fun x => x.elim (fun x => x ▸ dk_m) (fun x => dr_p_xs g x))
   replace hc := hc.trans2 hC23 (fun k e => e.elim (fun x => x ▸ dk_m) (fun x => dr_p_xs k x))
   replace hb := hC23.below hb hs (fun k e => e.elim (fun x => x ▸ g_m) (fun x => (World.ownsRow.lt p_xs k x).1))
   replace hs := Nat.le_trans hs hC23.size
   replace o_m := ho24
   refine zJ (zE (zA (zX ?_)))
   refine zO [.tmp 6] [(.int .i64 (layE lo hi))] rfl rfl ⟨by kernel_rfl, trivial⟩ ?_
   have hE : (((layE lo hi) : Int) = (putE xs lo hi)) ∧ ((layF eqI xs lo hi val) = (putF eqI xs lo hi val)) := ⟨(by exact (put_okG (eq := eqI) (v := val) (z := 0) (by assumption) (by assumption)).1), (by exact (put_okG (z := 0) (by assumption) (by assumption)).2)⟩
   exact ⟨_, congrArg (Value.int .i64) hE.1, o_m, r_q20.cast hE.2, dr_r_q20, hc⟩
 ·intro h25
  refine K11 (L_not false) (zJ (zE (zA (K11 zS (zF (zD (zJ (zE (zA (zX (zU (zH ?_))))))))))))
  refine zO [.tmp 6] [(.int .i64 41)] rfl rfl ⟨by kernel_rfl, trivial⟩ ?_
  have hE : ((41 : Int) = (putE xs lo hi)) ∧ (xs = (putF eqI xs lo hi val)) := ⟨(by exact (put_badG (eq := eqI) (v := val) (by assumption)).1), (by exact (put_badG (by assumption)).2)⟩
  exact ⟨_, congrArg (Value.int .i64) hE.1, o_m, p_xs.cast hE.2, dr_p_xs, hc⟩
end Go.Proofs.YtkclikfejmeblaaGreatDoor
end

/- === WcmC === -/
section
/- Walks, written by my program walk.py out of the specification cmC.py: each theorem says what one function returns and that it leaves memory as it was. -/
namespace Go.Proofs.YtkclikfejmeblaaGreatDoor
open Go Go.RowKit Go.FK
set_option maxHeartbeats 4000000
set_option maxRecDepth 100000
set_option linter.unusedVariables false
set_option linter.unusedSimpArgs false
theorem xI : Elem Tryz.prog 113 126 3 12 := ⟨Tryz.underlying113, by kernel_rfl, rfl⟩
theorem c_new_C (w : World) :
  Calls Tryz.prog 28 #[] w (Ret fun v w' => ∃ (cb0 : Nat), v = (.pointer (some ⟨cb0, 0, none⟩)) ∧ w'.heap[cb0]? = some (.cells [(.slice none 0 0), (.bool true)].toArray 115 (0, 0)) ∧ w.heap.size ≤ cb0 ∧ Below w.heap.size w w') := by
 refine K11 (enter (args := []) Tryz.func28 rfl (by kernel_rfl : _ = 3)) ?_
 have hb := Below.refl w.heap.size w
 have hs : w.heap.size ≤ w.heap.size := Nat.le_refl _
 refine zF (zD (zJ (zE (zA (zF (zD (K21 (zQ (Value.agg #[(.slice none 0 0), (.bool true)])) (K21 (yW (fun b => .pointer (some ⟨b, 0, none⟩)) (.cells [(.slice none 0 0), (.bool true)].toArray 115 (0, 0))) ?_))))))))
 intro b1 w2 hN3
 have g_x2 : w.heap.size ≤ b1 := by rw [hN3.num]; exact hs
 replace hb := hb.trans (hN3.below.mono hs)
 replace hs := Nat.le_trans hs (hN3.below.size)
 have o_x2 := hN3.here
 refine zJ (zE (zA (zX ?_)))
 refine zO [.tmp 0] [(.pointer (some ⟨b1, 0, none⟩))] rfl rfl ⟨by kernel_rfl, trivial⟩ ?_
 exact ⟨b1, rfl, o_x2, g_x2, hb⟩
theorem c_none_C (b_m : Nat) (v_xs : Value) (xs : List (Int × Int × Int)) (w : World) (o_m : w.heap[b_m]? = some (.cells [v_xs, (.bool true)].toArray 115 (0, 0))) (p_xs : Rd w encSpanC v_xs xs) :
  Calls Tryz.prog 63 #[(.pointer (some ⟨b_m, 0, none⟩))] w (Ret fun v w' => v = (.bool false) ∧ Below w.heap.size w w') := by
 refine K11 (enter (args := [(.pointer (some ⟨b_m, 0, none⟩))]) Tryz.func63 rfl (by kernel_rfl : _ = 12)) ?_
 have hb := Below.refl w.heap.size w
 have hs : w.heap.size ≤ w.heap.size := Nat.le_refl _
 refine zF (zD (zJ (zE (zA (zF (zD (zI (K21 (zQ (.bool false)) (zI (K11 zY (zI (K11 zY (K21 (zQ (.pointer (some ⟨b_m, 0, none⟩))) (K11 zY (K21 (zQ (.pointer (some ⟨b_m, 1, none⟩))) (K11 zY (K22 (zZ b_m 1 (.bool true)) (zM o_m rfl) (K11 zY (K11 (L_not true) (K11 yV (zJ (zE (zA (zX ?_))))))))))))))))))))))))
 refine zO [.tmp 2] [(.bool false)] rfl rfl ⟨by kernel_rfl, trivial⟩ ?_
 have e0 : false = false := by rfl
 exact ⟨congrArg Value.bool e0, hb⟩
theorem c_cmp_C (lo : Int) (hi : Int) (val : Int) (x : Int) (w : World) (h1 : -2147483648 ≤ hi ∧ hi ≤ 2147483647) (h2 : -2147483648 ≤ x ∧ x ≤ 2147483647) :
  Calls Tryz.prog 105 #[(Value.agg #[(.int .i32 lo), (.int .i32 hi), (.int .u8 val)]), (.int .i32 x)] w (Ret fun v w' => v = (.int .i64 (hi - x)) ∧ Below w.heap.size w w') := by
 refine K11 (enter (args := [(Value.agg #[(.int .i32 lo), (.int .i32 hi), (.int .u8 val)]), (.int .i32 x)]) Tryz.func105 rfl (by kernel_rfl : _ = 11)) ?_
 have hb := Below.refl w.heap.size w
 have hs : w.heap.size ≤ w.heap.size := Nat.le_refl _
 refine zF (zD (K21 (yW (fun b => .pointer (some ⟨b, 0, none⟩)) (.cells [(.int .i32 lo), (.int .i32 hi), (.int .u8 val)].toArray 126 (0, 0))) ?_))
 intro b1 w2 hN3
 have g_x2 : w.heap.size ≤ b1 := by rw [hN3.num]; exact hs
 replace hb := hb.trans (hN3.below.mono hs)
 replace hs := Nat.le_trans hs (hN3.below.size)
 have o_x2 := hN3.here
 refine zJ (zE (zA (zF (zD (K21 (zQ (.pointer (some ⟨b1, 1, none⟩))) (K22 (zZ b1 1 (.int .i32 hi)) (zM o_x2 rfl) (K12 (L_conv (k := .i32) hi hi (by kernel_rfl) Tryz.underlying3) (xL _ (by omega) (by omega)) (zI (K12 (L_conv (k := .i32) x x (by kernel_rfl) Tryz.underlying3) (xL _ (by omega) (by omega)) (K22 (xS hi x (hi - x) rfl) (xL _ (by simp only [arithZ]; omega) (by simp only [arithZ]; omega)) (zJ (zE (zA (zX ?_))))))))))))))
 refine zO [.tmp 4] [(.int .i64 (hi - x))] rfl rfl ⟨by kernel_rfl, trivial⟩ ?_
 have e0 : ((hi - x) : Int) = (hi - x) := by rfl
 exact ⟨congrArg (Value.int .i64) e0, hb⟩
theorem c_bsf_C (v_xs : Value) (xs : List (Int × Int × Int)) (x : Int) (w : World) (p_xs : Rd w encSpanC v_xs xs) (hr : RiseG 0 xs) (hx : -2147483648 ≤ x ∧ x ≤ 2147483647) :
  Calls Tryz.prog 104 #[v_xs, (.int .i32 x), (.func (.func 105) #[] #[])] w (Ret fun v w' => v = (.tuple #[(.int .i64 (((fromG xs x) : Nat) : Int)), (.bool (foundG xs x))]) ∧ Below w.heap.size w w') := by
 refine K11 (enter (args := [v_xs, (.int .i32 x), (.func (.func 105) #[] #[])]) Tryz.func104 rfl (by kernel_rfl : _ = 49)) ?_
 have hb := Below.refl w.heap.size w
 have hs : w.heap.size ≤ w.heap.size := Nat.le_refl _
 have hln := hr.len
 refine zF (zD (zJ (zJ (zE (zA (zF (zD (zI (K11 (L_len 113 126 (xs).length v_xs rfl Tryz.underlying113 (p_xs).len) (zJ (zE (zA (zF (zD (zI (zJ (zJ (zE (zA (zF (yP ?_)))))))))))))))))))))
 refine W_loop (fun m s0 w0 => ∃ (i : Nat) (j : Nat), (m = j - i) ∧ (s0.ds = []) ∧ (s0.f 0 = v_xs) ∧ (s0.f 1 = (.int .i32 x)) ∧ (s0.f 2 = (.func (.func 105) #[] #[])) ∧ (s0.f 6 = (.int .i64 0)) ∧ (s0.f 7 = (.bool false)) ∧ (s0.f 8 = (.int .i64 (((xs).length : Nat) : Int))) ∧ (s0.f 9 = (.int .i64 ((i : Nat) : Int))) ∧ (s0.f 10 = (.int .i64 ((j : Nat) : Int))) ∧ (Rd w0 encSpanC v_xs xs) ∧ (Below w.heap.size w w0) ∧ (w.heap.size ≤ w0.heap.size) ∧ (i ≤ j) ∧ (j ≤ xs.length) ∧ (lowG xs x i) ∧ (highG xs x j)) _ ⟨0, ((xs).length), rfl, by kernel_rfl, by kernel_rfl, by kernel_rfl, by kernel_rfl, by kernel_rfl, by kernel_rfl, by kernel_rfl, by kernel_rfl, by kernel_rfl, p_xs, hb, hs, by omega, by omega, lowG_zero xs x, highG_end xs x⟩ ?_
 rintro m1 s2 w3 ⟨i, j, hm, hds, f_0, f_1, f_2, f_6, f_7, f_8, f_9, f_10, p_xs, hb, hs, i1, i2, i3, i4⟩
 refine yK 0 _ f_0 (yK 1 _ f_1 (yK 2 _ f_2 (yK 6 _ f_6 (yK 7 _ f_7 (yK 8 _ f_8 (yK 9 _ f_9 (yK 10 _ f_10 ?_)))))))
 clear f_0 f_1 f_2 f_6 f_7 f_8 f_9 f_10
 refine zF (zF (zD (zI (zI (K22 (yD .i64 ((i : Nat) : Int) ((j : Nat) : Int) (i < j) rfl (cmpN_lt i j)) ?_ ?_)))))
 ·intro h4
  replace h4 : i < j := by omega
  refine zE (zA (K11 zS (zV (zA (yP (zF (zD (zI (zI (K21 (xD i j (by omega)) (K12 (L_conv (k := .i64) (((i + j) : Nat) : Int) (((i + j) : Nat) : Int) (by kernel_rfl) Tryz.underlying187) (wrap_u64 _ (by omega) (by omega)) (K31 (L_shr (k := .u64) (yk := .u64) (((i + j) : Nat) : Int) 1 2 rfl) (K12 (L_conv (k := .u64) ((((i + j) / 2) : Nat) : Int) ((((i + j) / 2) : Nat) : Int) (by kernel_rfl) Tryz.underlying3) (xL _ (by omega) (by omega)) (zJ (zE (zA (zF (zD (zI (zI (zI ?_)))))))))))))))))))))
  have hz := yT xs ((i + j) / 2) (by omega); obtain ⟨x5, hx6⟩ := hz
  have hz := (p_xs).at (k := 3) (fun _ => rfl) hx6
  obtain ⟨g7, off8, hl9, hc10⟩ := hz
  have hre := hr.at hx6
  refine K21 (xE (k := .i64) v_xs ((i + j) / 2) _ g7 off8 xI hl9 (by omega)) (K32 (yH g7 (off8 + ((i + j) / 2) * 3) [(.int .i32 x5.1), (.int .i32 x5.2.1), (.int .u8 x5.2.2)]) hc10 (zI (K22 (yA 105 [(Value.agg #[(.int .i32 x5.1), (.int .i32 x5.2.1), (.int .u8 x5.2.2)]), (.int .i32 x)]) (c_cmp_C x5.1 x5.2.1 x5.2.2 x _ (by omega) (by omega)) ?_)))
  rintro _ w11 ⟨rfl, hB12⟩
  replace hb := hb.trans (hB12.mono hs)
  replace hs := Nat.le_trans hs (hB12.size)
  replace p_xs := p_xs.below hB12
  refine K22 (yD .i64 (x5.2.1 - x) 0 ((x5.2.1 - x) < 0) rfl (cmp_lt (x5.2.1 - x) 0)) ?_ ?_
  ·intro h14
   replace h14 : (x5.2.1 - x) < 0 := by omega
   refine zE (zA (K11 zS (zD (zI (K21 (xD ((i + j) / 2) 1 (by omega)) (zJ (zE (zP ?_))))))))
   refine zA ⟨_, ?_, (((i + j) / 2) + 1), j, rfl, hds, by kernel_rfl, by kernel_rfl, by kernel_rfl, by kernel_rfl, by kernel_rfl, by kernel_rfl, by kernel_rfl, by kernel_rfl, p_xs, hb, hs, ?_, ?_, ?_, ?_⟩
   ·omega
   ·omega
   ·omega
   ·exact lowG_step hr (by assumption) (by omega)
   ·exact i4
  ·intro h15
   replace h15 : 0 ≤ (x5.2.1 - x) := by omega
   refine zE (zA (K11 zN (zD (zI (zJ (zE (zP ?_)))))))
   refine zA ⟨_, ?_, i, ((i + j) / 2), rfl, hds, by kernel_rfl, by kernel_rfl, by kernel_rfl, by kernel_rfl, by kernel_rfl, by kernel_rfl, by kernel_rfl, by kernel_rfl, p_xs, hb, hs, ?_, ?_, ?_, ?_⟩
   ·omega
   ·omega
   ·omega
   ·exact i3
   ·exact highG_step (by assumption) (by omega)
 ·intro h16
  replace h16 : j ≤ i := by omega
  refine zE (zA (K11 zN (W_exit (yM (yM (xM (zA (zF (zD (zI (zI (zI (K22 (yD .i64 ((i : Nat) : Int) (((xs).length : Nat) : Int) (i < (xs).length) rfl (cmpN_lt i ((xs).length))) ?_ ?_)))))))))))))
  ·intro h17
   replace h17 : i < (xs).length := by omega
   refine zI (K11 zY (zI (K11 zY (zI (K11 zY (zI (K11 zY ?_)))))))
   have hz := yT xs i (by omega); obtain ⟨x18, hx19⟩ := hz
   have hz := (p_xs).at (k := 3) (fun _ => rfl) hx19
   obtain ⟨g20, off21, hl22, hc23⟩ := hz
   have hre := hr.at hx19
   refine K21 (xE (k := .i64) v_xs i _ g20 off21 xI hl22 (by omega)) (K11 zY (K32 (yH g20 (off21 + i * 3) [(.int .i32 x18.1), (.int .i32 x18.2.1), (.int .u8 x18.2.2)]) hc23 (K11 zY (zI (K11 zY (K22 (yA 105 [(Value.agg #[(.int .i32 x18.1), (.int .i32 x18.2.1), (.int .u8 x18.2.2)]), (.int .i32 x)]) (c_cmp_C x18.1 x18.2.1 x18.2.2 x _ (by omega) (by omega)) ?_))))))
   rintro _ w24 ⟨rfl, hB25⟩
   replace hb := hb.trans (hB25.mono hs)
   replace hs := Nat.le_trans hs (hB25.size)
   refine K11 zY (K22 (yD .i64 (x18.2.1 - x) 0 ((x18.2.1 - x) = 0) rfl (xB (x18.2.1 - x) 0)) ?_ ?_)
   ·intro h27
    replace h27 : (x18.2.1 - x) = 0 := by omega
    refine K11 yU (zJ (zJ (zE (zA (zX ?_)))))
    refine zO [.tmp 6, .tmp 7] [(.int .i64 ((i : Nat) : Int)), (.bool true)] rfl hds ⟨by kernel_rfl, by kernel_rfl, trivial⟩ ?_
    have hE : (i = (fromG xs x)) ∧ (true = (foundG xs x)) := ⟨(by exact (fromG_done i3 i4 i1 (by omega) i2).symm), (by (rw [foundG_some (fromG_done i3 i4 i1 (by omega) i2) (by assumption)]; simp; omega))⟩
    exact ⟨xG (congrArg (fun x : Nat => Value.int .i64 (x : Int)) hE.1) (congrArg Value.bool hE.2), hb⟩
   ·intro h28
    replace h28 : (x18.2.1 - x) ≠ 0 := by omega
    refine K11 yU (zJ (zJ (zE (zA (zX ?_)))))
    refine zO [.tmp 6, .tmp 7] [(.int .i64 ((i : Nat) : Int)), (.bool false)] rfl hds ⟨by kernel_rfl, by kernel_rfl, trivial⟩ ?_
    have hE : (i = (fromG xs x)) ∧ (false = (foundG xs x)) := ⟨(by exact (fromG_done i3 i4 i1 (by omega) i2).symm), (by (rw [foundG_some (fromG_done i3 i4 i1 (by omega) i2) (by assumption)]; simp; omega))⟩
    exact ⟨xG (congrArg (fun x : Nat => Value.int .i64 (x : Int)) hE.1) (congrArg Value.bool hE.2), hb⟩
  ·intro h29
   replace h29 : (xs).length ≤ i := by omega
   refine zI (K11 yC (K11 yC (K11 yC (K11 yC (K11 yC (K11 yC (K11 yC (K11 yC (K11 yV (zJ (zJ (zE (zA (zX ?_))))))))))))))
   refine zO [.tmp 6, .tmp 7] [(.int .i64 ((i : Nat) : Int)), (.bool false)] rfl hds ⟨by kernel_rfl, by kernel_rfl, trivial⟩ ?_
   have hE : (i = (fromG xs x)) ∧ (false = (foundG xs x)) := ⟨(by exact (fromG_done i3 i4 i1 (by omega) i2).symm), (by (rw [foundG_none (fromG_done i3 i4 i1 (by omega) i2) (by omega)]; done))⟩
   exact ⟨xG (congrArg (fun x : Nat => Value.int .i64 (x : Int)) hE.1) (congrArg Value.bool hE.2), hb⟩
theorem c_from_C (b_m : Nat) (v_xs : Value) (xs : List (Int × Int × Int)) (x : Int) (w : World) (o_m : w.heap[b_m]? = some (.cells [v_xs, (.bool true)].toArray 115 (0, 0))) (p_xs : Rd w encSpanC v_xs xs) (hr : RiseG 0 xs) (hx : -2147483648 ≤ x ∧ x ≤ 2147483647) :
  Calls Tryz.prog 66 #[(.pointer (some ⟨b_m, 0, none⟩)), (.int .i32 x)] w (Ret fun v w' => v = (.int .i64 (((fromG xs x) : Nat) : Int)) ∧ Below w.heap.size w w') := by
 refine K11 (enter (args := [(.pointer (some ⟨b_m, 0, none⟩)), (.int .i32 x)]) Tryz.func66 rfl (by kernel_rfl : _ = 17)) ?_
 have hb := Below.refl w.heap.size w
 have hs : w.heap.size ≤ w.heap.size := Nat.le_refl _
 have hln := hr.len
 refine zF (zD (zJ (zE (zA (zF (zD (zI (K21 (zQ (.pointer (some ⟨b_m, 0, none⟩))) (K21 (zQ (.pointer (some ⟨b_m, 0, none⟩))) (K22 (zZ b_m 0 v_xs) (zM o_m rfl) (zI (K22 (yA 104 [v_xs, (.int .i32 x), (.func (.func 105) #[] #[])]) (c_bsf_C v_xs xs x _ p_xs (by exact hr) (by omega)) ?_))))))))))))
 rintro _ w1 ⟨rfl, hB2⟩
 replace hb := hb.trans (hB2.mono hs)
 replace hs := Nat.le_trans hs (hB2.size)
 refine zI (K21 (zQ (.int .i64 (((fromG xs x) : Nat) : Int))) (K21 (zQ (.bool (foundG xs x))) (zJ (zJ (zE (zA (zF (zD (zI (zJ (zE (zA (zX ?_)))))))))))))
 refine zO [.tmp 4] [(.int .i64 (((fromG xs x) : Nat) : Int))] rfl rfl ⟨by kernel_rfl, trivial⟩ ?_
 have e0 : (fromG xs x) = (fromG xs x) := by rfl
 exact ⟨congrArg (fun x : Nat => Value.int .i64 (x : Int)) e0, hb⟩
theorem c_at_C (b_m : Nat) (v_xs : Value) (xs : List (Int × Int × Int)) (x : Int) (w : World) (o_m : w.heap[b_m]? = some (.cells [v_xs, (.bool true)].toArray 115 (0, 0))) (p_xs : Rd w encSpanC v_xs xs) (hr : RiseG 0 xs) :
  Calls Tryz.prog 39 #[(.pointer (some ⟨b_m, 0, none⟩)), (.int .i32 x)] w (Ret fun v w' => v = (.tuple #[(.int .u8 ((atM 0 xs x).1)), (.bool ((atM 0 xs x).2))]) ∧ Below w.heap.size w w') := by
 refine K11 (enter (args := [(.pointer (some ⟨b_m, 0, none⟩)), (.int .i32 x)]) Tryz.func39 rfl (by kernel_rfl : _ = 50)) ?_
 have hb := Below.refl w.heap.size w
 have hs : w.heap.size ≤ w.heap.size := Nat.le_refl _
 have hln := hr.len
 refine zF (zD (zJ (zJ (zE (zA (zF (zD (zJ (zE (zA (zF (zF (zD (zI (K22 (yA 63 [(.pointer (some ⟨b_m, 0, none⟩))]) (c_none_C b_m v_xs xs _ o_m p_xs) ?_)))))))))))))))
 rintro _ w1 ⟨rfl, hB2⟩
 replace hb := hb.trans (hB2.mono hs)
 replace hs := Nat.le_trans hs (hB2.size)
 replace o_m := zB o_m hB2
 replace p_xs := p_xs.below hB2
 refine zI (K11 zY (zI (K11 zY (K22 (yD .i32 x 0 (x < 0) rfl (cmp_lt x 0)) ?_ ?_))))
 ·intro h4
  replace h4 : x < 0 := by omega
  refine K11 yV (zI (K11 yC (K11 yC (K11 yU (zE (zA (K11 zS (zF (zD (zI (zJ (zJ (zE (zA (zX (zH ?_))))))))))))))))
  refine zO [.tmp 4, .tmp 5] [(.int .u8 0), (.bool false)] rfl rfl ⟨by kernel_rfl, by kernel_rfl, trivial⟩ ?_
  have hE : ((0 : Int) = (atM 0 xs x).1) ∧ (false = (atM 0 xs x).2) := ⟨(by (rw [atG_out (by omega)]; done)), (by (rw [atG_out (by omega)]; done))⟩
  exact ⟨xG (congrArg (Value.int .u8) hE.1) (congrArg Value.bool hE.2), hb⟩
 ·intro h5
  replace h5 : 0 ≤ x := by omega
  refine K11 yV (zI (K11 zY (zI (K11 zY (K22 (yD .i32 x 1114111 (1114111 < x) rfl (cmp_gt x 1114111)) ?_ ?_)))))
  ·intro h6
   replace h6 : 1114111 < x := by omega
   refine K11 yV (zE (zA (K11 zS (zF (zD (zI (zJ (zJ (zE (zA (zX (zH ?_))))))))))))
   refine zO [.tmp 4, .tmp 5] [(.int .u8 0), (.bool false)] rfl rfl ⟨by kernel_rfl, by kernel_rfl, trivial⟩ ?_
   have hE : ((0 : Int) = (atM 0 xs x).1) ∧ (false = (atM 0 xs x).2) := ⟨(by (rw [atG_out (by omega)]; done)), (by (rw [atG_out (by omega)]; done))⟩
   exact ⟨xG (congrArg (Value.int .u8) hE.1) (congrArg Value.bool hE.2), hb⟩
  ·intro h7
   replace h7 : x ≤ 1114111 := by omega
   refine K11 yV (zE (zA (K11 zN (zV (zA (zF (zF (zD (zI (zI (K22 (yA 66 [(.pointer (some ⟨b_m, 0, none⟩)), (.int .i32 x)]) (c_from_C b_m v_xs xs x _ o_m p_xs (by exact hr) (by omega)) ?_)))))))))))
   rintro _ w8 ⟨rfl, hB9⟩
   replace hb := hb.trans (hB9.mono hs)
   replace hs := Nat.le_trans hs (hB9.size)
   replace o_m := zB o_m hB9
   replace p_xs := p_xs.below hB9
   have := fromG_le xs x
   refine zJ (zE (zA (zF (zD (zI (zI (K21 (zQ (.pointer (some ⟨b_m, 0, none⟩))) (K21 (zQ (.pointer (some ⟨b_m, 0, none⟩))) (K22 (zZ b_m 0 v_xs) (zM o_m rfl) (K11 (L_len 113 126 (xs).length v_xs rfl Tryz.underlying113 (p_xs).len) (K22 (yD .i64 (((fromG xs x) : Nat) : Int) (((xs).length : Nat) : Int) ((fromG xs x) < (xs).length) rfl (cmpN_lt (fromG xs x) ((xs).length))) ?_ ?_)))))))))))
   ·intro h11
    replace h11 : (fromG xs x) < (xs).length := by omega
    refine zI (K11 zY (zI (K11 zY (K21 (zQ (.pointer (some ⟨b_m, 0, none⟩))) (K11 zY (K21 (zQ (.pointer (some ⟨b_m, 0, none⟩))) (K11 zY (K22 (zZ b_m 0 v_xs) (zM o_m rfl) (K11 zY (zI (K11 zY ?_)))))))))))
    have hz := yT xs (fromG xs x) (by omega); obtain ⟨x12, hx13⟩ := hz
    have hz := (p_xs).at (k := 3) (fun _ => rfl) hx13
    obtain ⟨g14, off15, hl16, hc17⟩ := hz
    refine K21 (xE (k := .i64) v_xs (fromG xs x) _ g14 off15 xI hl16 (by omega)) (K11 zY (K21 (zQ (.pointer (some ⟨g14, (off15 + (fromG xs x) * 3), none⟩))) (K11 zY (K22 (zZ g14 (off15 + (fromG xs x) * 3) (.int .i32 x12.1)) (hc17 0 _ rfl) (K11 zY (zI (K11 zY (K22 (yD .i32 x12.1 x (x12.1 ≤ x) rfl (cmp_le x12.1 x)) ?_ ?_))))))))
    ·intro h18
     replace h18 : x12.1 ≤ x := by omega
     refine K11 yU (zE (zA (K11 zS (zF (zD (zI (K21 (zQ (.pointer (some ⟨b_m, 0, none⟩))) (K21 (zQ (.pointer (some ⟨b_m, 0, none⟩))) (K22 (zZ b_m 0 v_xs) (zM o_m rfl) (zI ?_))))))))))
     have hz := (p_xs).at (k := 3) (fun _ => rfl) hx13
     obtain ⟨g21, off22, hl23, hc24⟩ := hz
     refine K21 (xE (k := .i64) v_xs (fromG xs x) _ g21 off22 xI hl23 (by omega)) (K21 (zQ (.pointer (some ⟨g21, ((off22 + (fromG xs x) * 3) + 2), none⟩))) (K22 (zZ g21 ((off22 + (fromG xs x) * 3) + 2) (.int .u8 x12.2.2)) (hc24 2 _ rfl) (zJ (zJ (zE (zA (zX (zH ?_))))))))
     refine zO [.tmp 4, .tmp 5] [(.int .u8 x12.2.2), (.bool true)] rfl rfl ⟨by kernel_rfl, by kernel_rfl, trivial⟩ ?_
     have hE : ((x12.2.2 : Int) = (atM 0 xs x).1) ∧ (true = (atM 0 xs x).2) := ⟨(by (rw [atG_in hr (by omega) (by omega) (by assumption) (by omega)]; done)), (by (rw [atG_in hr (by omega) (by omega) (by assumption) (by omega)]; done))⟩
     exact ⟨xG (congrArg (Value.int .u8) hE.1) (congrArg Value.bool hE.2), hb⟩
    ·intro h25
     replace h25 : x < x12.1 := by omega
     refine K11 yU (zE (zA (K11 zN (zV (zA (zF (zD (zI (zJ (zJ (zE (zA (zX ?_)))))))))))))
     refine zO [.tmp 4, .tmp 5] [(.int .u8 0), (.bool false)] rfl rfl ⟨by kernel_rfl, by kernel_rfl, trivial⟩ ?_
     have hE : ((0 : Int) = (atM 0 xs x).1) ∧ (false = (atM 0 xs x).2) := ⟨(by (rw [atG_gap hr (by omega) (by omega) (by assumption) (by omega)]; done)), (by (rw [atG_gap hr (by omega) (by omega) (by assumption) (by omega)]; done))⟩
     exact ⟨xG (congrArg (Value.int .u8) hE.1) (congrArg Value.bool hE.2), hb⟩
   ·intro h26
    replace h26 : (xs).length ≤ (fromG xs x) := by omega
    refine zI (K11 yC (K11 yC (K11 yC (K11 yC (K11 yC (K11 yC (K11 yC (K11 yC (K11 yC (K11 yC (K11 yV (zE (zA (K11 zN (zV (zA (zF (zD (zI (zJ (zJ (zE (zA (zX ?_))))))))))))))))))))))))
    refine zO [.tmp 4, .tmp 5] [(.int .u8 0), (.bool false)] rfl rfl ⟨by kernel_rfl, by kernel_rfl, trivial⟩ ?_
    have hE : ((0 : Int) = (atM 0 xs x).1) ∧ (false = (atM 0 xs x).2) := ⟨(by (rw [atG_end (by omega) (by omega) (by omega)]; done)), (by (rw [atG_end (by omega) (by omega) (by omega)]; done))⟩
    exact ⟨xG (congrArg (Value.int .u8) hE.1) (congrArg Value.bool hE.2), hb⟩
theorem c_meets_C (b_m : Nat) (v_xs : Value) (xs : List (Int × Int × Int)) (lo : Int) (hi : Int) (w : World) (o_m : w.heap[b_m]? = some (.cells [v_xs, (.bool true)].toArray 115 (0, 0))) (p_xs : Rd w encSpanC v_xs xs) (hr : RiseG 0 xs) (hlo : -2147483648 ≤ lo ∧ lo ≤ 2147483647) :
  Calls Tryz.prog 103 #[(.pointer (some ⟨b_m, 0, none⟩)), (Value.agg #[(.int .i32 lo), (.int .i32 hi)])] w (Ret fun v w' => v = (.tuple #[(Value.agg #[(.int .i32 ((metV 0 (metG xs lo hi)).1)), (.int .i32 ((metV 0 (metG xs lo hi)).2.1))]), (.int .u8 ((metV 0 (metG xs lo hi)).2.2.1)), (.bool ((metV 0 (metG xs lo hi)).2.2.2))]) ∧ Below w.heap.size w w') := by
 refine K11 (enter (args := [(.pointer (some ⟨b_m, 0, none⟩)), (Value.agg #[(.int .i32 lo), (.int .i32 hi)])]) Tryz.func103 rfl (by kernel_rfl : _ = 69)) ?_
 have hb := Below.refl w.heap.size w
 have hs : w.heap.size ≤ w.heap.size := Nat.le_refl _
 have in_p_xs := p_xs
 have hln := hr.len
 refine zF (zD (K21 (yW (fun b => .pointer (some ⟨b, 0, none⟩)) (.cells [(.int .i32 lo), (.int .i32 hi)].toArray 32 (0, 0))) ?_))
 intro b1 w2 hN3
 have g_x3 : w.heap.size ≤ b1 := by rw [hN3.num]; exact hs
 replace hb := hb.trans (hN3.below.mono hs)
 replace hs := Nat.le_trans hs (hN3.below.size)
 replace o_m := zB o_m hN3.below
 replace p_xs := p_xs.below hN3.below
 have o_x3 := hN3.here
 refine K21 (yW (fun b => .pointer (some ⟨b, 0, none⟩)) (.cells [(.int .i32 0), (.int .i32 0)].toArray 32 (0, 0))) ?_
 intro b4 w5 hN6
 have g_x4 : w.heap.size ≤ b4 := by rw [hN6.num]; exact hs
 replace hb := hb.trans (hN6.below.mono hs)
 replace hs := Nat.le_trans hs (hN6.below.size)
 replace o_m := zB o_m hN6.below
 replace o_x3 := zB o_x3 hN6.below
 replace p_xs := p_xs.below hN6.below
 have o_x4 := hN6.here
 refine zJ (zJ (zE (zA (zF (zD (zJ (zE (zA (zF (zF (zD (zI (K22 (yA 63 [(.pointer (some ⟨b_m, 0, none⟩))]) (c_none_C b_m v_xs xs _ o_m p_xs) ?_)))))))))))))
 rintro _ w7 ⟨rfl, hB8⟩
 replace hb := hb.trans (hB8.mono hs)
 replace hs := Nat.le_trans hs (hB8.size)
 replace o_m := zB o_m hB8
 replace o_x3 := zB o_x3 hB8
 replace o_x4 := zB o_x4 hB8
 replace p_xs := p_xs.below hB8
 refine zI (K11 zY (K32 (yH b1 0 [(.int .i32 lo), (.int .i32 hi)]) (K10 (yN o_x3 0)) (K11 zY (K22 (yA 64 [(Value.agg #[(.int .i32 lo), (.int .i32 hi)])]) (c_points_May lo hi _) ?_))))
 rintro _ w10 ⟨rfl, hB11⟩
 replace hb := hb.trans (hB11.mono hs)
 replace hs := Nat.le_trans hs (hB11.size)
 replace o_m := zB o_m hB11
 replace o_x3 := zB o_x3 hB11
 replace o_x4 := zB o_x4 hB11
 replace p_xs := p_xs.below hB11
 refine xK (mayF lo hi) ?_ ?_
 ·intro h13
  refine K11 zY (K11 (L_not true) (K11 yV (zE (zA (K11 zN (zV (zA (zF (zF (zD (zI (K21 (zQ (.pointer (some ⟨b1, 0, none⟩))) (K22 (zZ b1 0 (.int .i32 lo)) (zM o_x3 rfl) (K22 (yA 66 [(.pointer (some ⟨b_m, 0, none⟩)), (.int .i32 lo)]) (c_from_C b_m v_xs xs lo _ o_m p_xs (by exact hr) (by omega)) ?_))))))))))))))
  rintro _ w14 ⟨rfl, hB15⟩
  replace hb := hb.trans (hB15.mono hs)
  replace hs := Nat.le_trans hs (hB15.size)
  replace o_m := zB o_m hB15
  replace o_x3 := zB o_x3 hB15
  replace o_x4 := zB o_x4 hB15
  replace p_xs := p_xs.below hB15
  have := fromG_le xs lo
  refine zJ (zE (zA (zF (K21 W_quiet (yI (yI (yS (.pointer (some ⟨b_m, 0, none⟩)) (fun _ => by kernel_rfl) (yS (.pointer (some ⟨b_m, 0, none⟩)) (fun _ => by kernel_rfl) (K13 (yY b_m 0 v_xs) (fun _ => by kernel_rfl) (zM o_m rfl) (K11 (Lq_len 113 126 (xs).length v_xs rfl Tryz.underlying113 (p_xs).len) (K22 (Lq_cmp .i64 (((fromG xs lo) : Nat) : Int) (((xs).length : Nat) : Int) ((fromG xs lo) < (xs).length) rfl (cmpN_lt (fromG xs lo) ((xs).length))) ?_ ?_)))))))))))
  ·intro h17
   replace h17 : (fromG xs lo) < (xs).length := by omega
   refine yI (K11 yB (yI (K11 yB (yS (.pointer (some ⟨b_m, 0, none⟩)) (fun _ => by kernel_rfl) (K11 yB (yS (.pointer (some ⟨b_m, 0, none⟩)) (fun _ => by kernel_rfl) (K11 yB (K13 (yY b_m 0 v_xs) (fun _ => by kernel_rfl) (zM o_m rfl) (K11 yB (yI (K11 yB ?_)))))))))))
   have hz := yT xs (fromG xs lo) (by omega); obtain ⟨x18, hx19⟩ := hz
   have hz := (p_xs).at (k := 3) (fun _ => rfl) hx19
   obtain ⟨g20, off21, hl22, hc23⟩ := hz
   refine K21 (Lq_ixaddr (k := .i64) v_xs (fromG xs lo) _ g20 off21 xI hl22 (by omega)) (K11 yB (yS (.pointer (some ⟨g20, (off21 + (fromG xs lo) * 3), none⟩)) (fun _ => by kernel_rfl) (K11 yB (K13 (yY g20 (off21 + (fromG xs lo) * 3) (.int .i32 x18.1)) (fun _ => by kernel_rfl) (hc23 0 _ rfl) (K11 yB (yS (.pointer (some ⟨b1, 1, none⟩)) (fun _ => by kernel_rfl) (K11 yB (K13 (yY b1 1 (.int .i32 hi)) (fun _ => by kernel_rfl) (zM o_x3 rfl) (K11 yB (K22 (Lq_cmp .i32 x18.1 hi (x18.1 ≤ hi) rfl (cmp_le x18.1 hi)) ?_ ?_))))))))))
   ·intro h24
    replace h24 : x18.1 ≤ hi := by omega
    refine K11 xT (xF ?_)
    intro w25 hB26
    replace hb := hb.trans (hB26.mono hs)
    replace hs := Nat.le_trans hs (hB26.size)
    replace o_m := zB o_m hB26
    replace o_x4 := zB o_x4 hB26
    refine zA (K11 zS (zF (K21 (W_held 28) ?_)))
    intro w27 hB28
    replace hb := hb.trans (hB28.mono hs)
    replace hs := Nat.le_trans hs (hB28.size)
    replace o_m := zB o_m hB28
    replace o_x4 := zB o_x4 hB28
    refine ⟨fun w2 => Ch (fun k => k = b4) w27 w2, ?_⟩
    have hS29 : Ch (fun k => k = b4) w27 w27 := Ch.refl _ _
    refine K35 (xA 0 (.pointer (some ⟨b_m, 0, none⟩)) rfl) (by repeat first | exact zR | exact zK | apply zC | apply zG) hS29 (by kernel_rfl) (fun _ _ => by kernel_rfl) ?_
    refine K35 (xA 1 (.pointer (some ⟨b_m, 0, none⟩)) rfl) (by repeat first | exact zR | exact zK | apply zC | apply zG) hS29 (by kernel_rfl) (fun _ _ => by kernel_rfl) ?_
    refine K35 (xA 2 (.pointer (some ⟨b_m, 0, none⟩)) rfl) (by repeat first | exact zR | exact zK | apply zC | apply zG) hS29 (by kernel_rfl) (fun _ _ => by kernel_rfl) ?_
    refine K35 (xA 3 v_xs rfl) (by repeat first | exact zR | exact zK | apply zC | apply zG) hS29 (by kernel_rfl) (K12 (R_load b_m 0 v_xs) (fun _ => by kernel_rfl) (fun w2 h2 => zM (yG o_m h2 (zT o_m o_x4 (by simp))) rfl)) ?_
    refine K35 (xA 4 (.int .i64 (((fromG xs lo) : Nat) : Int)) rfl) (by repeat first | exact zR | exact zK | apply zC | apply zG) hS29 (by kernel_rfl) (fun _ _ => by kernel_rfl) ?_
    have hz := (in_p_xs).at (k := 3) (fun _ => rfl) hx19
    obtain ⟨g32, off33, hl34, hc35⟩ := hz
    refine K35 (xA 5 (.pointer (some ⟨g32, (off33 + (fromG xs lo) * 3), none⟩)) rfl) (by repeat first | exact zR | exact zK | apply zC | apply zG) hS29 (by kernel_rfl) (K20 (R_ixaddr (k := .i64) v_xs (fromG xs lo) _ g32 off33 xI hl34 (by omega))) ?_
    refine K35 (xA 6 (.pointer (some ⟨g32, (off33 + (fromG xs lo) * 3), none⟩)) rfl) (by repeat first | exact zR | exact zK | apply zC | apply zG) hS29 (by kernel_rfl) (fun _ _ => by kernel_rfl) ?_
    refine K35 (xA 7 (.int .i32 x18.1) rfl) (by repeat first | exact zR | exact zK | apply zC | apply zG) hS29 (by kernel_rfl) (K12 (R_load g32 (off33 + (fromG xs lo) * 3) (.int .i32 x18.1)) (fun _ => by kernel_rfl) (fun w2 h2 => cell_old (hc35 0 _ rfl) hb h2 (fun k e => e ▸ g_x4))) ?_
    refine K35 (xA 8 (.pointer (some ⟨b_m, 0, none⟩)) rfl) (by repeat first | exact zR | exact zK | apply zC | apply zG) hS29 (by kernel_rfl) (fun _ _ => by kernel_rfl) ?_
    refine K35 (xA 9 (.pointer (some ⟨b_m, 0, none⟩)) rfl) (by repeat first | exact zR | exact zK | apply zC | apply zG) hS29 (by kernel_rfl) (fun _ _ => by kernel_rfl) ?_
    refine K35 (xA 10 (.pointer (some ⟨b_m, 0, none⟩)) rfl) (by repeat first | exact zR | exact zK | apply zC | apply zG) hS29 (by kernel_rfl) (fun _ _ => by kernel_rfl) ?_
    refine K35 (xA 11 v_xs rfl) (by repeat first | exact zR | exact zK | apply zC | apply zG) hS29 (by kernel_rfl) (K12 (R_load b_m 0 v_xs) (fun _ => by kernel_rfl) (fun w2 h2 => zM (yG o_m h2 (zT o_m o_x4 (by simp))) rfl)) ?_
    refine K35 (xA 12 (.int .i64 (((fromG xs lo) : Nat) : Int)) rfl) (by repeat first | exact zR | exact zK | apply zC | apply zG) hS29 (by kernel_rfl) (fun _ _ => by kernel_rfl) ?_
    have hz := (in_p_xs).at (k := 3) (fun _ => rfl) hx19
    obtain ⟨g38, off39, hl40, hc41⟩ := hz
    refine K35 (xA 13 (.pointer (some ⟨g38, (off39 + (fromG xs lo) * 3), none⟩)) rfl) (by repeat first | exact zR | exact zK | apply zC | apply zG) hS29 (by kernel_rfl) (K20 (R_ixaddr (k := .i64) v_xs (fromG xs lo) _ g38 off39 xI hl40 (by omega))) ?_
    refine K35 (xA 14 (.pointer (some ⟨g38, ((off39 + (fromG xs lo) * 3) + 1), none⟩)) rfl) (by repeat first | exact zR | exact zK | apply zC | apply zG) hS29 (by kernel_rfl) (fun _ _ => by kernel_rfl) ?_
    refine K35 (xA 15 (.int .i32 x18.2.1) rfl) (by repeat first | exact zR | exact zK | apply zC | apply zG) hS29 (by kernel_rfl) (K12 (R_load g38 ((off39 + (fromG xs lo) * 3) + 1) (.int .i32 x18.2.1)) (fun _ => by kernel_rfl) (fun w2 h2 => cell_old (hc41 1 _ rfl) hb h2 (fun k e => e ▸ g_x4))) ?_
    refine K35 (xA 16 (Value.agg #[(.int .i32 x18.1), (.int .i32 x18.2.1)]) rfl) (by repeat first | exact zR | exact zK | apply zC | apply zG) hS29 (by kernel_rfl) (fun _ _ => by kernel_rfl) ?_
    refine K35 (xA 17 (.pointer (some ⟨b_m, 0, none⟩)) rfl) (by repeat first | exact zR | exact zK | apply zC | apply zG) hS29 (by kernel_rfl) (fun _ _ => by kernel_rfl) ?_
    refine K35 (xA 18 (.pointer (some ⟨b_m, 0, none⟩)) rfl) (by repeat first | exact zR | exact zK | apply zC | apply zG) hS29 (by kernel_rfl) (fun _ _ => by kernel_rfl) ?_
    refine K35 (xA 19 (.pointer (some ⟨b_m, 0, none⟩)) rfl) (by repeat first | exact zR | exact zK | apply zC | apply zG) hS29 (by kernel_rfl) (fun _ _ => by kernel_rfl) ?_
    refine K35 (xA 20 v_xs rfl) (by repeat first | exact zR | exact zK | apply zC | apply zG) hS29 (by kernel_rfl) (K12 (R_load b_m 0 v_xs) (fun _ => by kernel_rfl) (fun w2 h2 => zM (yG o_m h2 (zT o_m o_x4 (by simp))) rfl)) ?_
    refine K35 (xA 21 (.int .i64 (((fromG xs lo) : Nat) : Int)) rfl) (by repeat first | exact zR | exact zK | apply zC | apply zG) hS29 (by kernel_rfl) (fun _ _ => by kernel_rfl) ?_
    have hz := (in_p_xs).at (k := 3) (fun _ => rfl) hx19
    obtain ⟨g44, off45, hl46, hc47⟩ := hz
    refine K35 (xA 22 (.pointer (some ⟨g44, (off45 + (fromG xs lo) * 3), none⟩)) rfl) (by repeat first | exact zR | exact zK | apply zC | apply zG) hS29 (by kernel_rfl) (K20 (R_ixaddr (k := .i64) v_xs (fromG xs lo) _ g44 off45 xI hl46 (by omega))) ?_
    refine K35 (xA 23 (.pointer (some ⟨g44, ((off45 + (fromG xs lo) * 3) + 2), none⟩)) rfl) (by repeat first | exact zR | exact zK | apply zC | apply zG) hS29 (by kernel_rfl) (fun _ _ => by kernel_rfl) ?_
    refine K35 (xA 24 (.int .u8 x18.2.2) rfl) (by repeat first | exact zR | exact zK | apply zC | apply zG) hS29 (by kernel_rfl) (K12 (R_load g44 ((off45 + (fromG xs lo) * 3) + 2) (.int .u8 x18.2.2)) (fun _ => by kernel_rfl) (fun w2 h2 => cell_old (hc47 2 _ rfl) hb h2 (fun k e => e ▸ g_x4))) ?_
    refine K36 (H_storeA 25 b4 0 [(.int .i32 x18.1), (.int .i32 x18.2.1)] [(.int .i32 0), (.int .i32 0)] [(.int .i32 x18.1), (.int .i32 x18.2.1)] 32 rfl) rfl (by kernel_rfl) o_x4 (by kernel_rfl) rfl ?_
    intro w48 hW49
    refine ⟨hS29.trans (Ch.of_wrote hW49), ?_⟩
    replace hb := hb.trans (hW49.below g_x4)
    replace hs := Nat.le_trans hs (Nat.le_of_eq hW49.size.symm)
    replace o_x4 := hW49.here
    have hS50 := hS29.trans (Ch.of_wrote hW49)
    refine K35 (xA 26 (.int .u8 x18.2.2) rfl) (by repeat first | exact zR | exact zK | apply zC | apply zG) hS50 (by kernel_rfl) (fun _ _ => by kernel_rfl) ?_
    refine K35 (xA 27 (.bool true) rfl) (by repeat first | exact zR | exact zK | apply zC | apply zG) hS50 (by kernel_rfl) (fun _ _ => by kernel_rfl) ?_
    refine K11 H_done ?_
    refine zA (zX (zH ?_))
    refine zO [.cell 4 32, .tmp 5, .tmp 6] [(Value.agg #[(.int .i32 x18.1), (.int .i32 x18.2.1)]), (.int .u8 x18.2.2), (.bool true)] rfl rfl ⟨⟨⟨b4, 0, none⟩, by kernel_rfl, xN [(.int .i32 x18.1), (.int .i32 x18.2.1)] (by kernel_rfl) (by kernel_rfl) (xH o_x4)⟩, by kernel_rfl, by kernel_rfl, trivial⟩ ?_
    have hE : ((Value.agg #[(.int .i32 x18.1), (.int .i32 x18.2.1)]) = (Value.agg #[(.int .i32 ((metV 0 (metG xs lo hi)).1)), (.int .i32 ((metV 0 (metG xs lo hi)).2.1))])) ∧ ((x18.2.2 : Int) = (metV 0 (metG xs lo hi)).2.2.1) ∧ (true = (metV 0 (metG xs lo hi)).2.2.2) := ⟨(by (rw [metG_yes (by assumption) (by assumption) (by omega)]; rfl)), (by (rw [metG_yes (by assumption) (by assumption) (by omega)]; rfl)), (by (rw [metG_yes (by assumption) (by assumption) (by omega)]; rfl))⟩
    exact ⟨tup3 (hE.1) (congrArg (Value.int .u8) hE.2.1) (congrArg Value.bool hE.2.2), hb⟩
   ·intro h51
    replace h51 : hi < x18.1 := by omega
    refine K11 xT (xF ?_)
    intro w52 hB53
    replace hb := hb.trans (hB53.mono hs)
    replace hs := Nat.le_trans hs (hB53.size)
    replace o_x4 := zB o_x4 hB53
    refine zA (K11 zN (zV (zA (zF (zD (K21 (zQ (Value.agg #[(.int .i32 0), (.int .i32 0)])) (zI (K26 (yX b4 0 [(.int .i32 0), (.int .i32 0)] [(.int .i32 0), (.int .i32 0)] [(.int .i32 0), (.int .i32 0)] 32) rfl (by kernel_rfl) o_x4 (by kernel_rfl) rfl ?_))))))))
    intro w54 hW55
    replace hb := hb.trans (hW55.below g_x4)
    replace hs := Nat.le_trans hs (Nat.le_of_eq hW55.size.symm)
    replace o_x4 := hW55.here
    refine zJ (zJ (zE (zA (zX ?_))))
    refine zO [.cell 4 32, .tmp 5, .tmp 6] [(Value.agg #[(.int .i32 0), (.int .i32 0)]), (.int .u8 0), (.bool false)] rfl rfl ⟨⟨⟨b4, 0, none⟩, by kernel_rfl, xN [(.int .i32 0), (.int .i32 0)] (by kernel_rfl) (by kernel_rfl) (xH o_x4)⟩, by kernel_rfl, by kernel_rfl, trivial⟩ ?_
    have hE : ((Value.agg #[(.int .i32 0), (.int .i32 0)]) = (Value.agg #[(.int .i32 ((metV 0 (metG xs lo hi)).1)), (.int .i32 ((metV 0 (metG xs lo hi)).2.1))])) ∧ ((0 : Int) = (metV 0 (metG xs lo hi)).2.2.1) ∧ (false = (metV 0 (metG xs lo hi)).2.2.2) := ⟨(by (rw [metG_no (by assumption) (by assumption) (by omega)]; rfl)), (by (rw [metG_no (by assumption) (by assumption) (by omega)]; rfl)), (by (rw [metG_no (by assumption) (by assumption) (by omega)]; rfl))⟩
    exact ⟨tup3 (hE.1) (congrArg (Value.int .u8) hE.2.1) (congrArg Value.bool hE.2.2), hb⟩
  ·intro h56
   replace h56 : (xs).length ≤ (fromG xs lo) := by omega
   refine yI (K11 zW (K11 zW (K11 zW (K11 zW (K11 zW (K11 zW (K11 zW (K11 zW (K11 zW (K11 zW (K11 zW (K11 Lq_pickF (xF ?_)))))))))))))
   intro w57 hB58
   replace hb := hb.trans (hB58.mono hs)
   replace hs := Nat.le_trans hs (hB58.size)
   replace o_x4 := zB o_x4 hB58
   refine zA (K11 zN (zV (zA (zF (zD (K21 (zQ (Value.agg #[(.int .i32 0), (.int .i32 0)])) (zI (K26 (yX b4 0 [(.int .i32 0), (.int .i32 0)] [(.int .i32 0), (.int .i32 0)] [(.int .i32 0), (.int .i32 0)] 32) rfl (by kernel_rfl) o_x4 (by kernel_rfl) rfl ?_))))))))
   intro w59 hW60
   replace hb := hb.trans (hW60.below g_x4)
   replace hs := Nat.le_trans hs (Nat.le_of_eq hW60.size.symm)
   replace o_x4 := hW60.here
   refine zJ (zJ (zE (zA (zX ?_))))
   refine zO [.cell 4 32, .tmp 5, .tmp 6] [(Value.agg #[(.int .i32 0), (.int .i32 0)]), (.int .u8 0), (.bool false)] rfl rfl ⟨⟨⟨b4, 0, none⟩, by kernel_rfl, xN [(.int .i32 0), (.int .i32 0)] (by kernel_rfl) (by kernel_rfl) (xH o_x4)⟩, by kernel_rfl, by kernel_rfl, trivial⟩ ?_
   have hE : ((Value.agg #[(.int .i32 0), (.int .i32 0)]) = (Value.agg #[(.int .i32 ((metV 0 (metG xs lo hi)).1)), (.int .i32 ((metV 0 (metG xs lo hi)).2.1))])) ∧ ((0 : Int) = (metV 0 (metG xs lo hi)).2.2.1) ∧ (false = (metV 0 (metG xs lo hi)).2.2.2) := ⟨(by (rw [metG_end (by assumption) (by omega)]; rfl)), (by (rw [metG_end (by assumption) (by omega)]; rfl)), (by (rw [metG_end (by assumption) (by omega)]; rfl))⟩
   exact ⟨tup3 (hE.1) (congrArg (Value.int .u8) hE.2.1) (congrArg Value.bool hE.2.2), hb⟩
 ·intro h61
  refine K11 zY (K11 (L_not false) (K11 yV (zE (zA (K11 zS (zF (zD (K21 (zQ (Value.agg #[(.int .i32 0), (.int .i32 0)])) (zI (K26 (yX b4 0 [(.int .i32 0), (.int .i32 0)] [(.int .i32 0), (.int .i32 0)] [(.int .i32 0), (.int .i32 0)] 32) rfl (by kernel_rfl) o_x4 (by kernel_rfl) rfl ?_))))))))))
  intro w62 hW63
  replace hb := hb.trans (hW63.below g_x4)
  replace hs := Nat.le_trans hs (Nat.le_of_eq hW63.size.symm)
  replace o_x4 := hW63.here
  refine zJ (zJ (zE (zA (zX (zH ?_)))))
  refine zO [.cell 4 32, .tmp 5, .tmp 6] [(Value.agg #[(.int .i32 0), (.int .i32 0)]), (.int .u8 0), (.bool false)] rfl rfl ⟨⟨⟨b4, 0, none⟩, by kernel_rfl, xN [(.int .i32 0), (.int .i32 0)] (by kernel_rfl) (by kernel_rfl) (xH o_x4)⟩, by kernel_rfl, by kernel_rfl, trivial⟩ ?_
  have hE : ((Value.agg #[(.int .i32 0), (.int .i32 0)]) = (Value.agg #[(.int .i32 ((metV 0 (metG xs lo hi)).1)), (.int .i32 ((metV 0 (metG xs lo hi)).2.1))])) ∧ ((0 : Int) = (metV 0 (metG xs lo hi)).2.2.1) ∧ (false = (metV 0 (metG xs lo hi)).2.2.2) := ⟨(by (rw [metG_may (by assumption)]; rfl)), (by (rw [metG_may (by assumption)]; rfl)), (by (rw [metG_may (by assumption)]; rfl))⟩
  exact ⟨tup3 (hE.1) (congrArg (Value.int .u8) hE.2.1) (congrArg Value.bool hE.2.2), hb⟩
theorem c_insert_C (B_ : Nat) (v_s : Value) (s : List (Int × Int × Int)) (i : Nat) (v_vs : Value) (vs : List (Int × Int × Int)) (w : World) (hs0 : B_ ≤ w.heap.size) (p_s : Row w B_ 126 3 encSpanC v_s s) (p_vs : Row w 0 126 3 encSpanC v_vs vs) (ap_p_vs_p_s : Value.ownBlock v_vs = none ∨ Value.ownBlock v_vs ≠ Value.ownBlock v_s) (hi : i ≤ s.length) (hl : s.length ≤ 4194304) (hv : vs.length ≤ 4194304) :
  Calls Tryz.prog 106 #[v_s, (.int .i64 ((i : Nat) : Int)), v_vs] w (Ret fun v w' => ∃ q0 : Value, v = q0 ∧ Row w' B_ 126 3 encSpanC q0 (List.take i s ++ vs ++ List.drop i s) ∧ (∀ g, Value.ownBlock q0 = some g → w.heap.size ≤ g ∨ Value.ownBlock v_s = some g) ∧ Ch (fun k => Value.ownBlock v_s = some k) w w') := by
 refine K11 (enter (args := [v_s, (.int .i64 ((i : Nat) : Int)), v_vs]) Tryz.func106 rfl (by kernel_rfl : _ = 95)) ?_
 have hb := Below.refl B_ w
 have hs : B_ ≤ (World.heap w).size := hs0
 have hc := Ch.refl (fun k => Value.ownBlock v_s = some k) w
 have dr_p_s : ∀ g, Value.ownBlock v_s = some g → (World.heap w).size ≤ g ∨ (fun k => Value.ownBlock v_s = some k) g := fun g h => .inr h
 refine zF (zD (zJ (zE (zA (zF (zD (zI (zI (K12 (L_slfrom xI v_s ((s).length) i (p_s.shape) (by omega)) ⟨.i64, by kernel_rfl⟩ ?_)))))))))
 intro vt1 hT2
 refine zE (zA (zF (zD (zI (K11 (L_len 113 126 (vs).length v_vs rfl Tryz.underlying113 (p_vs.rd).len) (zJ (zE (zA (zF (zF (zD (zI (K22 (yD .i64 (((vs).length : Nat) : Int) ((0 : Nat) : Int) ((vs).length = 0) rfl (cmpN_eq ((vs).length) 0)) ?_ ?_)))))))))))))
 ·intro h3
  replace h3 : (vs).length = 0 := by omega
  refine zE (zA (K11 zS (zF (zD (zI (zJ (zE (zA (zX (zH ?_))))))))))
  refine zO [.tmp 6] [v_s] rfl rfl ⟨by kernel_rfl, trivial⟩ ?_
  have e0 : s = (List.take i s ++ vs ++ List.drop i s) := by exact gep_same rfl (by omega)
  exact ⟨_, rfl, p_s.cast e0, dr_p_s, hc⟩
 ·intro h4
  replace h4 : (vs).length ≠ 0 := by omega
  refine zE (zA (K11 zN (zV (zA (zF (zD (zI (K11 (L_len 113 126 (s).length v_s rfl Tryz.underlying113 (p_s.rd).len) (zJ (zE (zA (zF (zF (zD (zI (zI (K22 (yD .i64 ((i : Nat) : Int) (((s).length : Nat) : Int) (i = (s).length) rfl (cmpN_eq i ((s).length))) ?_ ?_)))))))))))))))))
  ·intro h5
   replace h5 : i = (s).length := by omega
   refine zE (zA (K11 zS (zF (zD (zI (zI (K31 (L_appAll xI B_ v_s v_vs s vs hs p_s p_vs.rd (by omega) (fun _ => rfl) (fun _ => rfl)) ?_)))))))
   intro v6 w7 hr8 hg9 how10 
   have dr2 := dr_app (D := (fun k => Value.ownBlock v_s = some k)) how10 (by have h0 := hc.size; omega : (World.heap w).size ≤ (World.heap w).size) dr_p_s
   have nap_p_vs := ap_app2 p_vs how10 ap_p_vs_p_s
   replace hb := hb.grown hg9 hs (fun k hk => (World.ownsRow.lt p_s k hk).1)
   replace hc := hc.trans2 (Ch.of_grown hg9) (fun k e => dr_p_s k e)
   replace hs := Nat.le_trans hs (hg9.size)
   replace p_s := hr8
   have dr_p_s := dr2; clear dr2
   refine zJ (zE (zA (zX (zH ?_))))
   refine zO [.tmp 6] [v6] rfl rfl ⟨by kernel_rfl, trivial⟩ ?_
   have e0 : (s ++ vs) = (List.take i s ++ vs ++ List.drop i s) := by exact gep_end (by omega)
   exact ⟨_, rfl, p_s.cast e0, dr_p_s, hc⟩
  ·intro h11
   replace h11 : i ≠ (s).length := by omega
   refine zE (zA (K11 zN (zV (zA (zF (zF (zD (zI (zI (K21 (xD ((s).length) ((vs).length) (by omega)) (zI ?_)))))))))))
   have hk0 : ∀ x, (encSpanC x).length = 3 := fun _ => rfl
   have hz := Row.raw p_s hk0 (by omega)
   obtain ⟨g12, cap13, cur14, hv15, hnc16, hR17, hA18⟩ := hz
   have sh_p_s := p_s.shape
   have a0_19 := (at_mid hk0 hA18 i (by omega)).1
   have a2_20 := xO (at_mid hk0 hA18 i (by omega)).2 (Nat.zero_add _)
   refine K11 (L_cap 113 126 cap13 v_s rfl Tryz.underlying113 ⟨_, _, hv15⟩) (K22 (yD .i64 ((((s).length + (vs).length) : Nat) : Int) ((cap13 : Nat) : Int) (cap13 < ((s).length + (vs).length)) rfl (cmpN_gt ((s).length + (vs).length) cap13)) ?_ ?_)
   ·intro h21
    replace h21 : cap13 < ((s).length + (vs).length) := by omega
    refine zE (zA (K11 zS (zF (zD (zI (zI (K12 (L_sltoR xI v_s s i p_s (fun _ => rfl) (by omega)) ⟨.i64, by kernel_rfl⟩ ?_)))))))
    intro vp22 r_vp23 hsc24
    have dr_r_vp23 : ∀ g, Value.ownBlock vp22 = some g → (World.heap w).size ≤ g ∨ (fun k => Value.ownBlock v_s = some k) g := by rw [hsc24.own]; exact dr_p_s
    have ap_p_vs_r_vp23 := (by rw [hsc24.own]; exact ap_p_vs_p_s : Value.ownBlock v_vs = none ∨ Value.ownBlock v_vs ≠ Value.ownBlock vp22); have ap_r_vp23_p_vs := ap_comm ap_p_vs_r_vp23
    refine zI (zI (K21 (xD ((s).length) ((vs).length) (by omega)) (zI (K21 (L_subN ((s).length + (vs).length) i (by omega) (by omega)) ?_))))
    have hsv := samecap_val hsc24 hv15 r_vp23
    refine K31 (L_appZeros (kq := .i64) (kn := .i64) xI Tryz.underlying3 ((0, 0, 0) : SpI) (by kernel_rfl) B_ vp22 (List.take i s) (((s).length + (vs).length) - i) cap13 hs r_vp23 (fun _ => rfl) hsv.1 (by omega) (by (simp only [List.length_append, List.length_take, List.length_drop, List.length_replicate, List.length_cons, List.length_nil] <;> omega)) (by omega) hsv.2) ?_
    intro v25 w26 hr27 hg28 how29 
    have dr2 := dr_app (D := (fun k => Value.ownBlock v_s = some k)) how29 (by have h0 := hc.size; omega : (World.heap w).size ≤ (World.heap w).size) (dr_nil _)
    have zne_p_s := grow_ne hR17 (zer_new hr27 how29 (by (simp only [List.length_append, List.length_take, List.length_drop, List.length_replicate, List.length_cons, List.length_nil] <;> omega)))
    replace hR17 := Raw.grown hR17 hg28 (by simp [Value.ownBlock])
    have nap_p_s := ap_app2 p_s how29 (ap_nil _)
    have nap_p_vs := ap_app2 p_vs how29 (ap_nil _)
    have nap_r_vp23 := ap_app2 r_vp23 how29 (ap_nil _)
    replace hb := hb.grown hg28 hs (fun k hk => by simp [Value.ownBlock] at hk)
    replace hc := hc.trans2 (Ch.of_grown hg28) (fun k e => by simp [Value.ownBlock] at e)
    replace hs := Nat.le_trans hs (hg28.size)
    have p_vs := p_vs.grown hg28 (by cases h : Value.ownBlock _ <;> simp [Value.ownBlock])
    have r_z40 := hr27
    have dr_r_z40 := dr2; clear dr2
    have hk0 : ∀ x, (encSpanC x).length = 3 := fun _ => rfl
    have hz := Row.raw r_z40 hk0 (by (simp only [List.length_append, List.length_take, List.length_drop, List.length_replicate, List.length_cons, List.length_nil] <;> omega))
    obtain ⟨g30, cap31, cur32, hv33, hnc34, hR35, hA36⟩ := hz
    have sh_r_z40 := r_z40.shape
    have hna_r_z40 := hnc34; simp only [List.length_append, List.length_take, List.length_replicate] at hna_r_z40
    have a0_37 := (at_split hk0 hA36).1
    have rne_r_z40_p_s : g30 ≠ g12 := fun e => zne_p_s (by rw [yO hv33, e])
    have rne_p_s_r_z40 := rne_r_z40_p_s.symm
    refine zJ (zE (zA (zF (zD (zI (zI (K16 (L_slRaw xI v25 g30 0 ((((List.take i s) ++ (List.replicate (((s).length + (vs).length) - i) ((0, 0, 0) : SpI)))).length) cap31 i ((((List.take i s) ++ (List.replicate (((s).length + (vs).length) - i) ((0, 0, 0) : SpI)))).length) (by rw [Nat.zero_mul]; exact hv33)) ⟨.i64, by kernel_rfl⟩ rfl (by (simp only [List.length_append, List.length_take, List.length_drop, List.length_replicate, List.length_cons, List.length_nil] <;> omega)) (by omega) (by omega) (zI (K23 (L_copyRd (a := (0 + i)) (p := ((((List.take i s) ++ (List.replicate (((s).length + (vs).length) - i) ((0, 0, 0) : SpI)))).length - i)) (c1 := (cap31 - i)) xI v_vs vs hR35 p_vs.rd hk0 (fun _ => rfl)) (by (simp only [List.length_append, List.length_take, List.length_drop, List.length_replicate, List.length_cons, List.length_nil] <;> omega)) (by omega) ?_)))))))))
    intro w38 hR39 hg40
    have a0_41 := at_lo (a := (0 + i)) (cs := List.flatMap encSpanC vs) a0_37 (by (simp only [List.length_append, List.length_take, List.length_drop, List.length_replicate, List.length_cons, List.length_nil] <;> omega)) (Raw.le hR35 (by omega))
    have b_42 := at_put (a := (0 + i)) (ys := vs) hk0 (Raw.le2 hR35 (by omega))
    have hg2 : World.grownBy w26 w38 (Value.ownBlock v25) := by rw [yO hv33]; exact hg40
    replace hb := hb.grown hg2 hs (fun k hk => by rw [yO hv33] at hk; cases hk; exact hR35.base)
    replace hc := hc.trans2 (Ch.of_grown hg2) (fun k e => dr_r_z40 k e)
    replace hs := Nat.le_trans hs hg2.size
    replace hR17 := hR17.grown hg2 (by rw [yO hv33]; exact fun e => rne_r_z40_p_s (Option.some.inj e))
    clear hg2
    refine zE (zA (zF (W_pre 8 9 1 (by kernel_rfl) (by kernel_rfl) (by kernel_rfl) (by kernel_rfl) (by kernel_rfl) (by kernel_rfl) (by kernel_rfl) (yI (yI (yI (K21 (Lq_addN i ((vs).length) (by omega)) (K16 (Lq_slRaw xI v25 g30 0 ((((List.take i s) ++ (List.replicate (((s).length + (vs).length) - i) ((0, 0, 0) : SpI)))).length) cap31 (i + (vs).length) ((((List.take i s) ++ (List.replicate (((s).length + (vs).length) - i) ((0, 0, 0) : SpI)))).length) (by rw [Nat.zero_mul]; exact hv33)) ⟨.i64, by kernel_rfl⟩ rfl (by (simp only [List.length_append, List.length_take, List.length_drop, List.length_replicate, List.length_cons, List.length_nil] <;> omega)) (by omega) (by omega) (yI (yI (K16 (Lq_slRaw xI v_s g12 0 ((s).length) cap13 i ((s).length) (by rw [Nat.zero_mul]; exact hv15)) ⟨.i64, by kernel_rfl⟩ rfl (by omega) (by omega) (by omega) (xF ?_))))))))))))
    intro w43 hB44
    replace hb := hb.trans (hB44.mono hs)
    replace hc := hc.trans2 (Ch.of_below hB44) (fun _ h => h.elim)
    replace hs := Nat.le_trans hs (hB44.size)
    replace hR17 := Raw.below hR17 hB44
    replace hR39 := Raw.below hR39 hB44
    refine K11 (yJ 8) ?_
    refine yZ 8 rfl ?_ rfl
    refine K23 (L_copyRd (a := (0 + (i + (vs).length))) (p := ((((List.take i s) ++ (List.replicate (((s).length + (vs).length) - i) ((0, 0, 0) : SpI)))).length - (i + (vs).length))) (c1 := (cap31 - (i + (vs).length))) xI (.slice (some ⟨g12, (0 + i) * 3, none⟩) ((s).length - i) (cap13 - i)) (List.drop i s) hR39 (at_rd hR17 hk0 (xO a2_20 (by omega)) (by (simp only [List.length_append, List.length_take, List.length_drop, List.length_replicate, List.length_cons, List.length_nil] <;> omega))) hk0 (fun _ => rfl)) (by (simp only [List.length_append, List.length_take, List.length_drop, List.length_replicate, List.length_cons, List.length_nil] <;> omega)) (by (simp only [List.length_append, List.length_take, List.length_drop, List.length_replicate, List.length_cons, List.length_nil] <;> omega)) ?_
    intro w45 hR46 hg47
    have a0_48 := at_lo (a := (0 + (i + (vs).length))) (cs := List.flatMap encSpanC (List.drop i s)) a0_41 (by (simp only [List.length_append, List.length_take, List.length_drop, List.length_replicate, List.length_cons, List.length_nil] <;> omega)) (Raw.le hR39 (by omega))
    have b_49 := at_lo (a := (0 + (i + (vs).length))) (cs := List.flatMap encSpanC (List.drop i s)) b_42 (by omega) (Raw.le hR39 (by omega))
    have c_50 := at_put (a := (0 + (i + (vs).length))) (ys := (List.drop i s)) hk0 (Raw.le2 hR39 (by (simp only [List.length_append, List.length_take, List.length_drop, List.length_replicate, List.length_cons, List.length_nil] <;> omega)))
    have hg2 : World.grownBy w43 w45 (Value.ownBlock v25) := by rw [yO hv33]; exact hg47
    replace hb := hb.grown hg2 hs (fun k hk => by rw [yO hv33] at hk; cases hk; exact hR39.base)
    replace hc := hc.trans2 (Ch.of_grown hg2) (fun k e => dr_r_z40 k e)
    replace hs := Nat.le_trans hs hg2.size
    replace hR17 := hR17.grown hg2 (by rw [yO hv33]; exact fun e => rne_r_z40_p_s (Option.some.inj e))
    clear hg2
    refine zE ?_
    refine ⟨rfl, ?_⟩
    refine K11 yQ ?_
    refine zA (zF (zD (zI (zJ (zE (zA (zX (zH ?_))))))))
    refine zO [.tmp 6] [v25] rfl rfl ⟨by kernel_rfl, trivial⟩ ?_
    have hjn := at_join hk0 (at_join hk0 a0_48 (xO b_49 (by (simp only [List.length_append, List.length_take, List.length_drop, List.length_replicate, List.length_cons, List.length_nil] <;> omega)))) (xO c_50 (by (simp only [List.length_append, List.length_take, List.length_drop, List.length_replicate, List.length_cons, List.length_nil] <;> omega)))
    have hrr := Raw.row hR46 hk0 (N := ((((List.take i s) ++ (List.replicate (((s).length + (vs).length) - i) ((0, 0, 0) : SpI)))).length)) (by (simp only [List.length_append, List.length_take, List.length_drop, List.length_replicate, List.length_cons, List.length_nil] <;> omega)) (by (simp only [List.length_append, List.length_take, List.length_drop, List.length_replicate, List.length_cons, List.length_nil] <;> omega)) hjn
    exact ⟨_, hv33, hrr, (fun g e => dr_r_z40 g (by rw [yO hv33]; exact e)), hc⟩
   ·intro h51
    replace h51 : ((s).length + (vs).length) ≤ cap13 := by omega
    refine zE (zA (K11 zN (zV (zA (zF (zD (zI (zI (zI (K21 (xD ((s).length) ((vs).length) (by omega)) (K13 (L_slTot xI v_s g12 ((s).length) cap13 ((s).length + (vs).length) hv15) ⟨.i64, by kernel_rfl⟩ (by omega) (zJ (zE (zA (zF (zF (zD (zI (zI (zI (zI (K21 (xD i ((vs).length) (by omega)) (K16 (L_slRaw xI (.slice (some ⟨g12, 0, none⟩) ((s).length + (vs).length) cap13) g12 0 ((s).length + (vs).length) cap13 (i + (vs).length) ((s).length + (vs).length) (by rw [Nat.zero_mul])) ⟨.i64, by kernel_rfl⟩ rfl (by omega) (by omega) (by omega) ?_)))))))))))))))))))))))
    have hk0 : ∀ x, (encSpanC x).length = 3 := fun _ => rfl
    have hz := Row.raw p_vs hk0 (by omega)
    obtain ⟨g52, cap53, cur54, hv55, hnc56, hR57, hA58⟩ := hz
    have sh_p_vs := p_vs.shape
    have rne_p_vs_p_s : g52 ≠ g12 := rne_of hv55 hv15 ap_p_vs_p_s
    have rne_p_s_p_vs := rne_p_vs_p_s.symm
    refine L_overlaps xI (ga := g52) (gb := g12) (R := 4) Tryz.func107 (by kernel_rfl) (by kernel_rfl) (by kernel_rfl) (by kernel_rfl) 0 ((vs).length) cap53 ((0 + (i + (vs).length)) * 3) (((s).length + (vs).length) - (i + (vs).length)) (cap13 - (i + (vs).length)) hR57 hR17 rne_p_vs_p_s (by rw [hR17.size]; exact Nat.mul_pos (by omega) (by decide)) ((by kernel_rfl : _ = v_vs).trans hv55) (by kernel_rfl) (K11 (L_not false) (zE (zA (K11 zS (zF (W_pre 8 9 1 (by kernel_rfl) (by kernel_rfl) (by kernel_rfl) (by kernel_rfl) (by kernel_rfl) (by kernel_rfl) (by kernel_rfl) (yI (yI (yI (K21 (Lq_addN i ((vs).length) (by omega)) (K16 (Lq_slRaw xI (.slice (some ⟨g12, 0, none⟩) ((s).length + (vs).length) cap13) g12 0 ((s).length + (vs).length) cap13 (i + (vs).length) ((s).length + (vs).length) (by rw [Nat.zero_mul])) ⟨.i64, by kernel_rfl⟩ rfl (by omega) (by omega) (by omega) (yI (yI (K16 (Lq_slRaw xI (.slice (some ⟨g12, 0, none⟩) ((s).length + (vs).length) cap13) g12 0 ((s).length + (vs).length) cap13 i ((s).length + (vs).length) (by rw [Nat.zero_mul])) ⟨.i64, by kernel_rfl⟩ rfl (by omega) (by omega) (by omega) (xF ?_)))))))))))))))
    intro w59 hB60
    replace hb := hb.trans (hB60.mono hs)
    replace hc := hc.trans2 (Ch.of_below hB60) (fun _ h => h.elim)
    replace hs := Nat.le_trans hs (hB60.size)
    replace hR17 := Raw.below hR17 hB60
    replace hR57 := Raw.below hR57 hB60
    replace p_vs := p_vs.below hB60
    refine K11 (yJ 8) ?_
    refine yZ 8 rfl ?_ rfl
    refine K23 (L_copySelf (a := (0 + (i + (vs).length))) (p := (((s).length + (vs).length) - (i + (vs).length))) (c1 := (cap13 - (i + (vs).length))) (b := (0 + i)) (q := (((s).length + (vs).length) - i)) (c2 := (cap13 - i)) xI (List.drop i s) hR17 (xO a2_20 (by omega)) hk0 (fun _ => rfl)) (by (simp only [List.length_append, List.length_take, List.length_drop, List.length_replicate, List.length_cons, List.length_nil] <;> omega)) (by (simp only [List.length_append, List.length_take, List.length_drop, List.length_replicate, List.length_cons, List.length_nil] <;> omega)) ?_
    intro w61 hR62 hg63
    have a0_64 := at_lo (a := (0 + (i + (vs).length))) (cs := List.flatMap encSpanC (List.drop i s)) a0_19 (by (simp only [List.length_append, List.length_take, List.length_drop, List.length_replicate, List.length_cons, List.length_nil] <;> omega)) (Raw.le hR17 (by omega))
    have c_65 := at_put (a := (0 + (i + (vs).length))) (ys := (List.drop i s)) hk0 (Raw.le2 hR17 (by (simp only [List.length_append, List.length_take, List.length_drop, List.length_replicate, List.length_cons, List.length_nil] <;> omega)))
    have hg2 : World.grownBy w59 w61 (Value.ownBlock v_s) := by rw [yO hv15]; exact hg63
    replace hb := hb.grown hg2 hs (fun k hk => by rw [yO hv15] at hk; cases hk; exact hR17.base)
    replace hc := hc.trans2 (Ch.of_grown hg2) (fun k e => dr_p_s k e)
    replace hs := Nat.le_trans hs hg2.size
    replace p_vs := p_vs.grown hg2 ap_p_vs_p_s
    replace hR57 := hR57.grown hg2 (by rw [yO hv15]; exact fun e => rne_p_s_p_vs (Option.some.inj e))
    clear hg2
    refine zE ?_
    refine ⟨rfl, ?_⟩
    refine K11 yQ ?_
    refine zA (zF (zD (zI (zI (K16 (L_slRaw xI (.slice (some ⟨g12, 0, none⟩) ((s).length + (vs).length) cap13) g12 0 ((s).length + (vs).length) cap13 i ((s).length + (vs).length) (by rw [Nat.zero_mul])) ⟨.i64, by kernel_rfl⟩ rfl (by omega) (by omega) (by omega) (zI (K23 (L_copyRd (a := (0 + i)) (p := (((s).length + (vs).length) - i)) (c1 := (cap13 - i)) xI v_vs vs hR62 p_vs.rd hk0 (fun _ => rfl)) (by omega) (by omega) ?_)))))))
    intro w66 hR67 hg68
    have a0_69 := at_lo (a := (0 + i)) (cs := List.flatMap encSpanC vs) a0_64 (by (simp only [List.length_append, List.length_take, List.length_drop, List.length_replicate, List.length_cons, List.length_nil] <;> omega)) (Raw.le hR62 (by omega))
    have c_70 := at_hi (a := (0 + i)) (ys := vs) hk0 c_65 (by omega) (Raw.le2 hR62 (by omega))
    have b_71 := at_put (a := (0 + i)) (ys := vs) hk0 (Raw.le2 hR62 (by omega))
    have hg2 : World.grownBy w61 w66 (Value.ownBlock v_s) := by rw [yO hv15]; exact hg68
    replace hb := hb.grown hg2 hs (fun k hk => by rw [yO hv15] at hk; cases hk; exact hR62.base)
    replace hc := hc.trans2 (Ch.of_grown hg2) (fun k e => dr_p_s k e)
    replace hs := Nat.le_trans hs hg2.size
    replace hR57 := hR57.grown hg2 (by rw [yO hv15]; exact fun e => rne_p_s_p_vs (Option.some.inj e))
    clear hg2
    refine zE (zA (zF (zD (zI (zJ (zE (zA (zX (zH ?_)))))))))
    refine zO [.tmp 6] [(.slice (some ⟨g12, 0, none⟩) ((s).length + (vs).length) cap13)] rfl rfl ⟨by kernel_rfl, trivial⟩ ?_
    have hjn := at_join hk0 (at_join hk0 a0_69 (xO b_71 (by (simp only [List.length_append, List.length_take, List.length_drop, List.length_replicate, List.length_cons, List.length_nil] <;> omega)))) (xO c_70 (by (simp only [List.length_append, List.length_take, List.length_drop, List.length_replicate, List.length_cons, List.length_nil] <;> omega)))
    have hrr := Raw.row hR67 hk0 (N := ((s).length + (vs).length)) (by (simp only [List.length_append, List.length_take, List.length_drop, List.length_replicate, List.length_cons, List.length_nil] <;> omega)) (by (simp only [List.length_append, List.length_take, List.length_drop, List.length_replicate, List.length_cons, List.length_nil] <;> omega)) hjn
    exact ⟨_, rfl, hrr, (fun g e => dr_p_s g (by rw [yO hv15]; exact e)), hc⟩
theorem c_replace_C (B_ : Nat) (v_s : Value) (s : List (Int × Int × Int)) (i : Nat) (j : Nat) (v_vs : Value) (vs : List (Int × Int × Int)) (w : World) (hs0 : B_ ≤ w.heap.size) (p_s : Row w B_ 126 3 encSpanC v_s s) (p_vs : Row w 0 126 3 encSpanC v_vs vs) (ap_p_vs_p_s : Value.ownBlock v_vs = none ∨ Value.ownBlock v_vs ≠ Value.ownBlock v_s) (hij : i ≤ j) (hj : j ≤ s.length) (hl : s.length ≤ 4194304) (hv : vs.length ≤ 4194304) :
  Calls Tryz.prog 67 #[v_s, (.int .i64 ((i : Nat) : Int)), (.int .i64 ((j : Nat) : Int)), v_vs] w (Ret fun v w' => ∃ q0 : Value, v = q0 ∧ Row w' B_ 126 3 encSpanC q0 (List.take i s ++ vs ++ List.drop j s) ∧ (∀ g, Value.ownBlock q0 = some g → w.heap.size ≤ g ∨ Value.ownBlock v_s = some g) ∧ Ch (fun k => Value.ownBlock v_s = some k) w w') := by
 refine K11 (enter (args := [v_s, (.int .i64 ((i : Nat) : Int)), (.int .i64 ((j : Nat) : Int)), v_vs]) Tryz.func67 rfl (by kernel_rfl : _ = 224)) ?_
 have hb := Below.refl B_ w
 have hs : B_ ≤ (World.heap w).size := hs0
 have hc := Ch.refl (fun k => Value.ownBlock v_s = some k) w
 have dr_p_s : ∀ g, Value.ownBlock v_s = some g → (World.heap w).size ≤ g ∨ (fun k => Value.ownBlock v_s = some k) g := fun g h => .inr h
 refine zF (zD (zJ (zE (zA (zF (zD (zI (zI (zI (K13 (L_slmid xI v_s ((s).length) i j (p_s.shape) (by omega) (by omega)) ⟨.i64, by kernel_rfl⟩ ⟨.i64, by kernel_rfl⟩ ?_))))))))))
 intro vt1
 refine zE (zA (zF (zF (zD (zI (zI (K22 (yD .i64 ((i : Nat) : Int) ((j : Nat) : Int) (i = j) rfl (cmpN_eq i j)) ?_ ?_)))))))
 ·intro h2
  replace h2 : i = j := by omega
  refine zE (zA (K11 zS (zF (zD (zI (zI (zI (K22 (yA 106 [v_s, (.int .i64 ((i : Nat) : Int)), v_vs]) (c_insert_C B_ v_s s i v_vs vs _ hs p_s p_vs.mono0 ap_p_vs_p_s (by omega) (by omega) (by omega)) ?_))))))))
  rintro q3 w4 ⟨_, rfl, r_q3, dm5, hC6⟩
  have dr_r_q3 := dr_call hc dm5 dr_p_s
  replace hc := hc.trans2 hC6 (fun k e => dr_p_s k e)
  replace hb := hC6.below hb hs (fun k e => (World.ownsRow.lt p_s k e).1)
  replace hs := Nat.le_trans hs hC6.size
  refine zJ (zE (zA (zX (zH ?_))))
  refine zO [.tmp 8] [q3] rfl rfl ⟨by kernel_rfl, trivial⟩ ?_
  have e0 : (List.take i s ++ vs ++ List.drop i s) = (List.take i s ++ vs ++ List.drop j s) := by (subst j; rfl)
  exact ⟨_, rfl, r_q3.cast e0, dr_r_q3, hc⟩
 ·intro h7
  replace h7 : i ≠ j := by omega
  refine zE (zA (K11 zN (zV (zA (zF (zF (zD (zI (zI (K11 (L_len 113 126 (s).length v_s rfl Tryz.underlying113 (p_s.rd).len) (K22 (yD .i64 ((j : Nat) : Int) (((s).length : Nat) : Int) (j = (s).length) rfl (cmpN_eq j ((s).length))) ?_ ?_)))))))))))
  ·intro h8
   replace h8 : j = (s).length := by omega
   refine zE (zA (K11 zS (zF (zD (zI (zI (K12 (L_sltoR xI v_s s i p_s (fun _ => rfl) (by omega)) ⟨.i64, by kernel_rfl⟩ ?_)))))))
   intro vp9 r_vp10 hsc11
   have dr_r_vp10 : ∀ g, Value.ownBlock vp9 = some g → (World.heap w).size ≤ g ∨ (fun k => Value.ownBlock v_s = some k) g := by rw [hsc11.own]; exact dr_p_s
   have ap_p_vs_r_vp10 := (by rw [hsc11.own]; exact ap_p_vs_p_s : Value.ownBlock v_vs = none ∨ Value.ownBlock v_vs ≠ Value.ownBlock vp9); have ap_r_vp10_p_vs := ap_comm ap_p_vs_r_vp10
   refine zI (K31 (L_appPre xI B_ vp9 v_vs (List.take i s) vs hs r_vp10 p_vs.rd (by (simp only [List.length_append, List.length_take]; omega)) (fun _ => rfl) (fun _ => rfl)) ?_)
   have sh_p_s := p_s.shape
   intro v13 w14 hr15 hg16 how17 hcp18
   have room_p_s := room_app p_s hsc11 hr15 hcp18
   have dr2 := dr_app (D := (fun k => Value.ownBlock v_s = some k)) how17 (by have h0 := hc.size; omega : (World.heap w).size ≤ (World.heap w).size) dr_r_vp10
   have nap_p_vs := ap_app2 p_vs how17 ap_p_vs_r_vp10
   replace hb := hb.grown hg16 hs (fun k hk => (World.ownsRow.lt r_vp10 k hk).1)
   replace hc := hc.trans2 (Ch.of_grown hg16) (fun k e => dr_r_vp10 k e)
   replace hs := Nat.le_trans hs (hg16.size)
   replace r_vp10 := hr15
   have dr_r_vp10 := dr2; clear dr2
   refine zJ (zE (zA (zF (zF (zD (zI (K11 (L_len 113 126 (((List.take i s) ++ vs)).length v13 rfl Tryz.underlying113 (r_vp10.rd).len) (zI (K11 (L_len 113 126 ((s).length) v_s rfl Tryz.underlying113 sh_p_s.len) (K22 (yD .i64 (((((List.take i s) ++ vs)).length : Nat) : Int) (((s).length : Nat) : Int) ((((List.take i s) ++ vs)).length < (s).length) rfl (cmpN_lt ((((List.take i s) ++ vs)).length) ((s).length))) ?_ ?_))))))))))
   ·intro h19
    replace h19 : (((List.take i s) ++ vs)).length < (s).length := by omega
    refine zE (zA (K11 zS (zD (zI (zI (K11 (L_len 113 126 (((List.take i s) ++ vs)).length v13 rfl Tryz.underlying113 (r_vp10.rd).len) (K12 (L_slfrom xI v_s ((s).length) ((((List.take i s) ++ vs)).length) sh_p_s (by omega)) ⟨.i64, by kernel_rfl⟩ ?_)))))))
    intro vt20 hT21
    refine K11 (L_clearTail xI v_s v13 vt20 ((List.take i s) ++ vs) hT21 room_p_s r_vp10 (by omega) (by omega) sh_p_s (fun z hz => by cases hz; decide)) ?_
    intro w22 hr23 hg24
    replace hc := hc.trans2 (Ch.of_grown hg24) (fun k e => dr_p_s k e)
    replace r_vp10 := hr23
    replace hs := Nat.le_trans hs hg24.size
    refine zE (zA (zF (zD (zI (zJ (zE (zA (zX (zH ?_)))))))))
    refine zO [.tmp 8] [v13] rfl rfl ⟨by kernel_rfl, trivial⟩ ?_
    have e0 : ((List.take i s) ++ vs) = (List.take i s ++ vs ++ List.drop j s) := by exact gep_tail (by omega)
    exact ⟨_, rfl, r_vp10.cast e0, dr_r_vp10, hc⟩
   ·intro h25
    replace h25 : (s).length ≤ (((List.take i s) ++ vs)).length := by omega
    refine zE (zA (K11 zN (zV (zA (zF (zD (zI (zJ (zE (zA (zX (zH ?_))))))))))))
    refine zO [.tmp 8] [v13] rfl rfl ⟨by kernel_rfl, trivial⟩ ?_
    have e0 : ((List.take i s) ++ vs) = (List.take i s ++ vs ++ List.drop j s) := by exact gep_tail (by omega)
    exact ⟨_, rfl, r_vp10.cast e0, dr_r_vp10, hc⟩
  ·intro h26
   replace h26 : j ≠ (s).length := by omega
   refine zE (zA (K11 zN (zV (zA (zF ?_)))))
   have hk0 : ∀ x, (encSpanC x).length = 3 := fun _ => rfl
   have hz := Row.raw p_s hk0 (by omega)
   obtain ⟨g27, cap28, cur29, hv30, hnc31, hR32, hA33⟩ := hz
   have sh_p_s := p_s.shape
   have a0_34 := (at_mid hk0 hA33 i (by omega)).1
   have a2_35 := xO (at_mid hk0 hA33 j (by omega)).2 (Nat.zero_add _)
   refine K21 W_quiet (yI (yI (K13 (Lq_slTot xI v_s g27 ((s).length) cap28 i hv30) ⟨.i64, by kernel_rfl⟩ (by omega) (K11 (Lq_len 113 126 i (.slice (some ⟨g27, 0, none⟩) i cap28) rfl Tryz.underlying113 ⟨_, _, rfl⟩) (yI (K11 (Lq_len 113 126 (vs).length v_vs rfl Tryz.underlying113 (p_vs.rd).len) (K21 (Lq_addN i ((vs).length) (by omega)) (yI (yI (K16 (Lq_slRaw xI v_s g27 0 ((s).length) cap28 j ((s).length) (by rw [Nat.zero_mul]; exact hv30)) ⟨.i64, by kernel_rfl⟩ rfl (by omega) (by omega) (by omega) (K11 (Lq_len 113 126 ((s).length - j) (.slice (some ⟨g27, (0 + j) * 3, none⟩) ((s).length - j) (cap28 - j)) rfl Tryz.underlying113 ⟨_, _, rfl⟩) (K21 (Lq_addN (i + (vs).length) ((s).length - j) (by omega)) (Lq_as (xF ?_))))))))))))))
   intro w36 hB37
   replace hb := hb.trans (hB37.mono hs)
   replace hc := hc.trans2 (Ch.of_below hB37) (fun _ h => h.elim)
   replace hs := Nat.le_trans hs (hB37.size)
   replace hR32 := Raw.below hR32 hB37
   replace p_s := p_s.below hB37
   replace p_vs := p_vs.below hB37
   refine zA (zF (zF (zD (zI (zI (K11 (L_cap 113 126 cap28 v_s rfl Tryz.underlying113 ⟨_, _, hv30⟩) (K22 (yD .i64 ((((i + (vs).length) + ((s).length - j)) : Nat) : Int) ((cap28 : Nat) : Int) (cap28 < ((i + (vs).length) + ((s).length - j))) rfl (cmpN_gt ((i + (vs).length) + ((s).length - j)) cap28)) ?_ ?_)))))))
   ·intro h38
    replace h38 : cap28 < ((i + (vs).length) + ((s).length - j)) := by omega
    refine zE (zA (K11 zS (zF (zD (zI (zI (K12 (L_sltoR xI v_s s i p_s (fun _ => rfl) (by omega)) ⟨.i64, by kernel_rfl⟩ ?_)))))))
    intro vp39 r_vp40 hsc41
    have dr_r_vp40 : ∀ g, Value.ownBlock vp39 = some g → (World.heap w).size ≤ g ∨ (fun k => Value.ownBlock v_s = some k) g := by rw [hsc41.own]; exact dr_p_s
    have ap_p_vs_r_vp40 := (by rw [hsc41.own]; exact ap_p_vs_p_s : Value.ownBlock v_vs = none ∨ Value.ownBlock v_vs ≠ Value.ownBlock vp39); have ap_r_vp40_p_vs := ap_comm ap_p_vs_r_vp40
    refine zI (zI (K21 (L_subN ((i + (vs).length) + ((s).length - j)) i (by omega) (by omega)) ?_))
    have hsv := samecap_val hsc41 hv30 r_vp40
    refine K31 (L_appZeros (kq := .i64) (kn := .i64) xI Tryz.underlying3 ((0, 0, 0) : SpI) (by kernel_rfl) B_ vp39 (List.take i s) (((i + (vs).length) + ((s).length - j)) - i) cap28 hs r_vp40 (fun _ => rfl) hsv.1 (by omega) (by (simp only [List.length_append, List.length_take, List.length_drop, List.length_replicate, List.length_cons, List.length_nil] <;> omega)) (by omega) hsv.2) ?_
    intro v42 w43 hr44 hg45 how46 
    have dr2 := dr_app (D := (fun k => Value.ownBlock v_s = some k)) how46 (by have h0 := hc.size; omega : (World.heap w).size ≤ (World.heap w36).size) (dr_nil _)
    have zne_p_s := grow_ne hR32 (zer_new hr44 how46 (by (simp only [List.length_append, List.length_take, List.length_drop, List.length_replicate, List.length_cons, List.length_nil] <;> omega)))
    replace hR32 := Raw.grown hR32 hg45 (by simp [Value.ownBlock])
    have nap_p_s := ap_app2 p_s how46 (ap_nil _)
    have nap_p_vs := ap_app2 p_vs how46 (ap_nil _)
    have nap_r_vp40 := ap_app2 r_vp40 how46 (ap_nil _)
    replace hb := hb.grown hg45 hs (fun k hk => by simp [Value.ownBlock] at hk)
    replace hc := hc.trans2 (Ch.of_grown hg45) (fun k e => by simp [Value.ownBlock] at e)
    replace hs := Nat.le_trans hs (hg45.size)
    have p_vs := p_vs.grown hg45 (by cases h : Value.ownBlock _ <;> simp [Value.ownBlock])
    have ap_p_vs_r_z67 := nap_p_vs
    have r_z67 := hr44
    have dr_r_z67 := dr2; clear dr2
    have hk0 : ∀ x, (encSpanC x).length = 3 := fun _ => rfl
    have hz := Row.raw r_z67 hk0 (by (simp only [List.length_append, List.length_take, List.length_drop, List.length_replicate, List.length_cons, List.length_nil] <;> omega))
    obtain ⟨g47, cap48, cur49, hv50, hnc51, hR52, hA53⟩ := hz
    have sh_r_z67 := r_z67.shape
    have hna_r_z67 := hnc51; simp only [List.length_append, List.length_take, List.length_replicate] at hna_r_z67
    have a0_54 := (at_split hk0 hA53).1
    have rne_r_z67_p_s : g47 ≠ g27 := fun e => zne_p_s (by rw [yO hv50, e])
    have rne_p_s_r_z67 := rne_r_z67_p_s.symm
    refine zJ (zE (zA (zF (zD (zI (zI (K16 (L_slRaw xI v42 g47 0 ((((List.take i s) ++ (List.replicate (((i + (vs).length) + ((s).length - j)) - i) ((0, 0, 0) : SpI)))).length) cap48 i ((((List.take i s) ++ (List.replicate (((i + (vs).length) + ((s).length - j)) - i) ((0, 0, 0) : SpI)))).length) (by rw [Nat.zero_mul]; exact hv50)) ⟨.i64, by kernel_rfl⟩ rfl (by (simp only [List.length_append, List.length_take, List.length_drop, List.length_replicate, List.length_cons, List.length_nil] <;> omega)) (by omega) (by omega) (zI (K23 (L_copyRd (a := (0 + i)) (p := ((((List.take i s) ++ (List.replicate (((i + (vs).length) + ((s).length - j)) - i) ((0, 0, 0) : SpI)))).length - i)) (c1 := (cap48 - i)) xI v_vs vs hR52 p_vs.rd hk0 (fun _ => rfl)) (by (simp only [List.length_append, List.length_take, List.length_drop, List.length_replicate, List.length_cons, List.length_nil] <;> omega)) (by omega) ?_)))))))))
    intro w55 hR56 hg57
    have a0_58 := at_lo (a := (0 + i)) (cs := List.flatMap encSpanC vs) a0_54 (by (simp only [List.length_append, List.length_take, List.length_drop, List.length_replicate, List.length_cons, List.length_nil] <;> omega)) (Raw.le hR52 (by omega))
    have b_59 := at_put (a := (0 + i)) (ys := vs) hk0 (Raw.le2 hR52 (by omega))
    have hg2 : World.grownBy w43 w55 (Value.ownBlock v42) := by rw [yO hv50]; exact hg57
    replace hb := hb.grown hg2 hs (fun k hk => by rw [yO hv50] at hk; cases hk; exact hR52.base)
    replace hc := hc.trans2 (Ch.of_grown hg2) (fun k e => dr_r_z67 k e)
    replace hs := Nat.le_trans hs hg2.size
    replace p_vs := p_vs.grown hg2 ap_p_vs_r_z67
    replace hR32 := hR32.grown hg2 (by rw [yO hv50]; exact fun e => rne_r_z67_p_s (Option.some.inj e))
    clear hg2
    refine zE (zA (zF (W_pre 9 10 1 (by kernel_rfl) (by kernel_rfl) (by kernel_rfl) (by kernel_rfl) (by kernel_rfl) (by kernel_rfl) (by kernel_rfl) (yI (yI (yI (K11 (Lq_len 113 126 (vs).length v_vs rfl Tryz.underlying113 (p_vs.rd).len) (K21 (Lq_addN i ((vs).length) (by omega)) (K16 (Lq_slRaw xI v42 g47 0 ((((List.take i s) ++ (List.replicate (((i + (vs).length) + ((s).length - j)) - i) ((0, 0, 0) : SpI)))).length) cap48 (i + (vs).length) ((((List.take i s) ++ (List.replicate (((i + (vs).length) + ((s).length - j)) - i) ((0, 0, 0) : SpI)))).length) (by rw [Nat.zero_mul]; exact hv50)) ⟨.i64, by kernel_rfl⟩ rfl (by (simp only [List.length_append, List.length_take, List.length_drop, List.length_replicate, List.length_cons, List.length_nil] <;> omega)) (by omega) (by omega) (yI (yI (K16 (Lq_slRaw xI v_s g27 0 ((s).length) cap28 j ((s).length) (by rw [Nat.zero_mul]; exact hv30)) ⟨.i64, by kernel_rfl⟩ rfl (by omega) (by omega) (by omega) (xF ?_)))))))))))))
    intro w60 hB61
    replace hb := hb.trans (hB61.mono hs)
    replace hc := hc.trans2 (Ch.of_below hB61) (fun _ h => h.elim)
    replace hs := Nat.le_trans hs (hB61.size)
    replace hR32 := Raw.below hR32 hB61
    replace hR56 := Raw.below hR56 hB61
    refine K11 (yJ 9) ?_
    refine yZ 9 rfl ?_ rfl
    refine K23 (L_copyRd (a := (0 + (i + (vs).length))) (p := ((((List.take i s) ++ (List.replicate (((i + (vs).length) + ((s).length - j)) - i) ((0, 0, 0) : SpI)))).length - (i + (vs).length))) (c1 := (cap48 - (i + (vs).length))) xI (.slice (some ⟨g27, (0 + j) * 3, none⟩) ((s).length - j) (cap28 - j)) (List.drop j s) hR56 (at_rd hR32 hk0 (xO a2_35 (by omega)) (by (simp only [List.length_append, List.length_take, List.length_drop, List.length_replicate, List.length_cons, List.length_nil] <;> omega))) hk0 (fun _ => rfl)) (by (simp only [List.length_append, List.length_take, List.length_drop, List.length_replicate, List.length_cons, List.length_nil] <;> omega)) (by (simp only [List.length_append, List.length_take, List.length_drop, List.length_replicate, List.length_cons, List.length_nil] <;> omega)) ?_
    intro w62 hR63 hg64
    have a0_65 := at_lo (a := (0 + (i + (vs).length))) (cs := List.flatMap encSpanC (List.drop j s)) a0_58 (by (simp only [List.length_append, List.length_take, List.length_drop, List.length_replicate, List.length_cons, List.length_nil] <;> omega)) (Raw.le hR56 (by omega))
    have b_66 := at_lo (a := (0 + (i + (vs).length))) (cs := List.flatMap encSpanC (List.drop j s)) b_59 (by omega) (Raw.le hR56 (by omega))
    have c_67 := at_put (a := (0 + (i + (vs).length))) (ys := (List.drop j s)) hk0 (Raw.le2 hR56 (by (simp only [List.length_append, List.length_take, List.length_drop, List.length_replicate, List.length_cons, List.length_nil] <;> omega)))
    have hg2 : World.grownBy w60 w62 (Value.ownBlock v42) := by rw [yO hv50]; exact hg64
    replace hb := hb.grown hg2 hs (fun k hk => by rw [yO hv50] at hk; cases hk; exact hR56.base)
    replace hc := hc.trans2 (Ch.of_grown hg2) (fun k e => dr_r_z67 k e)
    replace hs := Nat.le_trans hs hg2.size
    replace hR32 := hR32.grown hg2 (by rw [yO hv50]; exact fun e => rne_r_z67_p_s (Option.some.inj e))
    clear hg2
    refine zE ?_
    refine ⟨rfl, ?_⟩
    refine K11 yQ ?_
    refine zA (zF (zD (zI (zJ (zE (zA (zX (zH ?_))))))))
    refine zO [.tmp 8] [v42] rfl rfl ⟨by kernel_rfl, trivial⟩ ?_
    have hjn := at_join hk0 (at_join hk0 a0_65 (xO b_66 (by (simp only [List.length_append, List.length_take, List.length_drop, List.length_replicate, List.length_cons, List.length_nil] <;> omega)))) (xO c_67 (by (simp only [List.length_append, List.length_take, List.length_drop, List.length_replicate, List.length_cons, List.length_nil] <;> omega)))
    have hrr := Raw.row hR63 hk0 (N := ((((List.take i s) ++ (List.replicate (((i + (vs).length) + ((s).length - j)) - i) ((0, 0, 0) : SpI)))).length)) (by (simp only [List.length_append, List.length_take, List.length_drop, List.length_replicate, List.length_cons, List.length_nil] <;> omega)) (by (simp only [List.length_append, List.length_take, List.length_drop, List.length_replicate, List.length_cons, List.length_nil] <;> omega)) hjn
    exact ⟨_, hv50, hrr, (fun g e => dr_r_z67 g (by rw [yO hv50]; exact e)), hc⟩
   ·intro h68
    replace h68 : ((i + (vs).length) + ((s).length - j)) ≤ cap28 := by omega
    refine zE (zA (K11 zN (zV (zA (zF (zD (zI (zI (K13 (L_slTot xI v_s g27 ((s).length) cap28 ((i + (vs).length) + ((s).length - j)) hv30) ⟨.i64, by kernel_rfl⟩ (by omega) (zJ (zE (zA (zF (zF (zD (zI (zI (K11 (L_len 113 126 (vs).length v_vs rfl Tryz.underlying113 (p_vs.rd).len) (K21 (xD i ((vs).length) (by omega)) (zI (K22 (yD .i64 (((i + (vs).length) : Nat) : Int) ((j : Nat) : Int) ((i + (vs).length) ≤ j) rfl (cmpN_le (i + (vs).length) j)) ?_ ?_)))))))))))))))))))))
    ·intro h69
     replace h69 : (i + (vs).length) ≤ j := by omega
     refine zE (zA (K11 zS (zF (zD (zI (zI (K16 (L_slRaw xI (.slice (some ⟨g27, 0, none⟩) ((i + (vs).length) + ((s).length - j)) cap28) g27 0 ((i + (vs).length) + ((s).length - j)) cap28 i ((i + (vs).length) + ((s).length - j)) (by rw [Nat.zero_mul])) ⟨.i64, by kernel_rfl⟩ rfl (by omega) (by omega) (by omega) (zI (K23 (L_copyRd (a := (0 + i)) (p := (((i + (vs).length) + ((s).length - j)) - i)) (c1 := (cap28 - i)) xI v_vs vs hR32 p_vs.rd hk0 (fun _ => rfl)) (by omega) (by omega) ?_)))))))))
     intro w70 hR71 hg72
     have a0_73 := at_lo (a := (0 + i)) (cs := List.flatMap encSpanC vs) a0_34 (by (simp only [List.length_append, List.length_take, List.length_drop, List.length_replicate, List.length_cons, List.length_nil] <;> omega)) (Raw.le hR32 (by omega))
     have a2_74 := at_hi (a := (0 + i)) (ys := vs) hk0 a2_35 (by omega) (Raw.le2 hR32 (by omega))
     have b_75 := at_put (a := (0 + i)) (ys := vs) hk0 (Raw.le2 hR32 (by omega))
     have hg2 : World.grownBy w36 w70 (Value.ownBlock v_s) := by rw [yO hv30]; exact hg72
     replace hb := hb.grown hg2 hs (fun k hk => by rw [yO hv30] at hk; cases hk; exact hR32.base)
     replace hc := hc.trans2 (Ch.of_grown hg2) (fun k e => dr_p_s k e)
     replace hs := Nat.le_trans hs hg2.size
     replace p_vs := p_vs.grown hg2 ap_p_vs_p_s
     clear hg2
     refine zE (zA (zF (W_pre 9 10 1 (by kernel_rfl) (by kernel_rfl) (by kernel_rfl) (by kernel_rfl) (by kernel_rfl) (by kernel_rfl) (by kernel_rfl) (yI (yI (yI (K11 (Lq_len 113 126 (vs).length v_vs rfl Tryz.underlying113 (p_vs.rd).len) (K21 (Lq_addN i ((vs).length) (by omega)) (K16 (Lq_slRaw xI (.slice (some ⟨g27, 0, none⟩) ((i + (vs).length) + ((s).length - j)) cap28) g27 0 ((i + (vs).length) + ((s).length - j)) cap28 (i + (vs).length) ((i + (vs).length) + ((s).length - j)) (by rw [Nat.zero_mul])) ⟨.i64, by kernel_rfl⟩ rfl (by omega) (by omega) (by omega) (yI (yI (K16 (Lq_slRaw xI v_s g27 0 ((s).length) cap28 j ((s).length) (by rw [Nat.zero_mul]; exact hv30)) ⟨.i64, by kernel_rfl⟩ rfl (by omega) (by omega) (by omega) (xF ?_)))))))))))))
     intro w76 hB77
     replace hb := hb.trans (hB77.mono hs)
     replace hc := hc.trans2 (Ch.of_below hB77) (fun _ h => h.elim)
     replace hs := Nat.le_trans hs (hB77.size)
     replace hR71 := Raw.below hR71 hB77
     refine K11 (yJ 9) ?_
     refine yZ 9 rfl ?_ rfl
     refine K23 (L_copySelf (a := (0 + (i + (vs).length))) (p := (((i + (vs).length) + ((s).length - j)) - (i + (vs).length))) (c1 := (cap28 - (i + (vs).length))) (b := (0 + j)) (q := ((s).length - j)) (c2 := (cap28 - j)) xI (List.drop j s) hR71 (xO a2_74 (by omega)) hk0 (fun _ => rfl)) (by (simp only [List.length_append, List.length_take, List.length_drop, List.length_replicate, List.length_cons, List.length_nil] <;> omega)) (by (simp only [List.length_append, List.length_take, List.length_drop, List.length_replicate, List.length_cons, List.length_nil] <;> omega)) ?_
     intro w78 hR79 hg80
     have a0_81 := at_lo (a := (0 + (i + (vs).length))) (cs := List.flatMap encSpanC (List.drop j s)) a0_73 (by (simp only [List.length_append, List.length_take, List.length_drop, List.length_replicate, List.length_cons, List.length_nil] <;> omega)) (Raw.le hR71 (by omega))
     have b_82 := at_lo (a := (0 + (i + (vs).length))) (cs := List.flatMap encSpanC (List.drop j s)) b_75 (by omega) (Raw.le hR71 (by omega))
     have c_83 := at_put (a := (0 + (i + (vs).length))) (ys := (List.drop j s)) hk0 (Raw.le2 hR71 (by (simp only [List.length_append, List.length_take, List.length_drop, List.length_replicate, List.length_cons, List.length_nil] <;> omega)))
     have hg2 : World.grownBy w76 w78 (Value.ownBlock v_s) := by rw [yO hv30]; exact hg80
     replace hb := hb.grown hg2 hs (fun k hk => by rw [yO hv30] at hk; cases hk; exact hR71.base)
     replace hc := hc.trans2 (Ch.of_grown hg2) (fun k e => dr_p_s k e)
     replace hs := Nat.le_trans hs hg2.size
     clear hg2
     refine zE ?_
     refine ⟨rfl, ?_⟩
     refine K11 yQ ?_
     refine zA (zF (zD (zI (zI (K12 (L_slfrom xI v_s ((s).length) ((i + (vs).length) + ((s).length - j)) sh_p_s (by omega)) ⟨.i64, by kernel_rfl⟩ ?_)))))
     intro vt84 hT85
     refine K11 (L_clearRaw (α := Int × Int × Int) (enc := encSpanC) (lo := ((i + (vs).length) + ((s).length - j))) xI v_s vt84 hv30 hT85 hR79 (by omega) hnc31 (fun z hz => by cases hz; decide)) ?_
     intro w86 cur89 hR87 hst90 hg88
     have a0_91 := hst90 _ _ (by (simp only [List.length_append, List.length_take, List.length_drop, List.length_replicate, List.length_cons, List.length_nil] <;> omega)) a0_81
     have b_92 := hst90 _ _ (by omega) b_82
     have c_93 := hst90 _ _ (by (simp only [List.length_append, List.length_take, List.length_drop, List.length_replicate, List.length_cons, List.length_nil] <;> omega)) c_83
     have hg2 : World.grownBy w78 w86 (Value.ownBlock v_s) := by rw [yO hv30]; exact hg88
     replace hb := hb.grown hg2 hs (fun k hk => by rw [yO hv30] at hk; cases hk; exact hR79.base)
     replace hc := hc.trans2 (Ch.of_grown hg2) (fun k e => dr_p_s k e)
     replace hs := Nat.le_trans hs hg2.size
     clear hg2
     refine zE (zA (zF (zD (zI (zJ (zE (zA (zX (zH ?_)))))))))
     refine zO [.tmp 8] [(.slice (some ⟨g27, 0, none⟩) ((i + (vs).length) + ((s).length - j)) cap28)] rfl rfl ⟨by kernel_rfl, trivial⟩ ?_
     have hjn := at_join hk0 (at_join hk0 a0_91 (xO b_92 (by (simp only [List.length_append, List.length_take, List.length_drop, List.length_replicate, List.length_cons, List.length_nil] <;> omega)))) (xO c_93 (by (simp only [List.length_append, List.length_take, List.length_drop, List.length_replicate, List.length_cons, List.length_nil] <;> omega)))
     have hrr := Raw.row hR87 hk0 (N := ((i + (vs).length) + ((s).length - j))) (by (simp only [List.length_append, List.length_take, List.length_drop, List.length_replicate, List.length_cons, List.length_nil] <;> omega)) (by (simp only [List.length_append, List.length_take, List.length_drop, List.length_replicate, List.length_cons, List.length_nil] <;> omega)) hjn
     exact ⟨_, rfl, hrr, (fun g e => dr_p_s g (by rw [yO hv30]; exact e)), hc⟩
    ·intro h94
     replace h94 : j < (i + (vs).length) := by omega
     refine zE (zA (K11 zN (zV (zA (zF (zF (zD (zI (zI (zI (K11 (L_len 113 126 (vs).length v_vs rfl Tryz.underlying113 (p_vs.rd).len) (K21 (xD i ((vs).length) (by omega)) (K16 (L_slRaw xI (.slice (some ⟨g27, 0, none⟩) ((i + (vs).length) + ((s).length - j)) cap28) g27 0 ((i + (vs).length) + ((s).length - j)) cap28 (i + (vs).length) ((i + (vs).length) + ((s).length - j)) (by rw [Nat.zero_mul])) ⟨.i64, by kernel_rfl⟩ rfl (by omega) (by omega) (by omega) (zI ?_))))))))))))))
     have hk0 : ∀ x, (encSpanC x).length = 3 := fun _ => rfl
     have hz := Row.raw p_vs hk0 (by omega)
     obtain ⟨g95, cap96, cur97, hv98, hnc99, hR100, hA101⟩ := hz
     have sh_p_vs := p_vs.shape
     have rne_p_vs_p_s : g95 ≠ g27 := rne_of hv98 hv30 ap_p_vs_p_s
     have rne_p_s_p_vs := rne_p_vs_p_s.symm
     refine L_overlaps xI (ga := g27) (gb := g95) (R := 4) Tryz.func107 (by kernel_rfl) (by kernel_rfl) (by kernel_rfl) (by kernel_rfl) ((0 + (i + (vs).length)) * 3) (((i + (vs).length) + ((s).length - j)) - (i + (vs).length)) (cap28 - (i + (vs).length)) 0 ((vs).length) cap96 hR32 hR100 rne_p_s_p_vs (by rw [hR100.size]; exact Nat.mul_pos (by omega) (by decide)) (by kernel_rfl) ((by kernel_rfl : _ = v_vs).trans hv98) (K11 (L_not false) (zE (zA (K11 zS (zF (W_pre 9 10 1 (by kernel_rfl) (by kernel_rfl) (by kernel_rfl) (by kernel_rfl) (by kernel_rfl) (by kernel_rfl) (by kernel_rfl) (yI (yI (yI (K11 (Lq_len 113 126 (vs).length v_vs rfl Tryz.underlying113 (p_vs.rd).len) (K21 (Lq_addN i ((vs).length) (by omega)) (K16 (Lq_slRaw xI (.slice (some ⟨g27, 0, none⟩) ((i + (vs).length) + ((s).length - j)) cap28) g27 0 ((i + (vs).length) + ((s).length - j)) cap28 (i + (vs).length) ((i + (vs).length) + ((s).length - j)) (by rw [Nat.zero_mul])) ⟨.i64, by kernel_rfl⟩ rfl (by omega) (by omega) (by omega) (yI (yI (K16 (Lq_slRaw xI v_s g27 0 ((s).length) cap28 j ((s).length) (by rw [Nat.zero_mul]; exact hv30)) ⟨.i64, by kernel_rfl⟩ rfl (by omega) (by omega) (by omega) (xF ?_))))))))))))))))
     intro w102 hB103
     replace hb := hb.trans (hB103.mono hs)
     replace hc := hc.trans2 (Ch.of_below hB103) (fun _ h => h.elim)
     replace hs := Nat.le_trans hs (hB103.size)
     replace hR32 := Raw.below hR32 hB103
     replace hR100 := Raw.below hR100 hB103
     replace p_vs := p_vs.below hB103
     refine K11 (yJ 9) ?_
     refine yZ 9 rfl ?_ rfl
     refine K23 (L_copySelf (a := (0 + (i + (vs).length))) (p := (((i + (vs).length) + ((s).length - j)) - (i + (vs).length))) (c1 := (cap28 - (i + (vs).length))) (b := (0 + j)) (q := ((s).length - j)) (c2 := (cap28 - j)) xI (List.drop j s) hR32 (xO a2_35 (by omega)) hk0 (fun _ => rfl)) (by (simp only [List.length_append, List.length_take, List.length_drop, List.length_replicate, List.length_cons, List.length_nil] <;> omega)) (by (simp only [List.length_append, List.length_take, List.length_drop, List.length_replicate, List.length_cons, List.length_nil] <;> omega)) ?_
     intro w104 hR105 hg106
     have a0_107 := at_lo (a := (0 + (i + (vs).length))) (cs := List.flatMap encSpanC (List.drop j s)) a0_34 (by (simp only [List.length_append, List.length_take, List.length_drop, List.length_replicate, List.length_cons, List.length_nil] <;> omega)) (Raw.le hR32 (by omega))
     have c_108 := at_put (a := (0 + (i + (vs).length))) (ys := (List.drop j s)) hk0 (Raw.le2 hR32 (by (simp only [List.length_append, List.length_take, List.length_drop, List.length_replicate, List.length_cons, List.length_nil] <;> omega)))
     have hg2 : World.grownBy w102 w104 (Value.ownBlock v_s) := by rw [yO hv30]; exact hg106
     replace hb := hb.grown hg2 hs (fun k hk => by rw [yO hv30] at hk; cases hk; exact hR32.base)
     replace hc := hc.trans2 (Ch.of_grown hg2) (fun k e => dr_p_s k e)
     replace hs := Nat.le_trans hs hg2.size
     replace p_vs := p_vs.grown hg2 ap_p_vs_p_s
     replace hR100 := hR100.grown hg2 (by rw [yO hv30]; exact fun e => rne_p_s_p_vs (Option.some.inj e))
     clear hg2
     refine zE ?_
     refine ⟨rfl, ?_⟩
     refine K11 yQ ?_
     refine zA (zF (zD (zI (zI (K16 (L_slRaw xI (.slice (some ⟨g27, 0, none⟩) ((i + (vs).length) + ((s).length - j)) cap28) g27 0 ((i + (vs).length) + ((s).length - j)) cap28 i ((i + (vs).length) + ((s).length - j)) (by rw [Nat.zero_mul])) ⟨.i64, by kernel_rfl⟩ rfl (by omega) (by omega) (by omega) (zI (K23 (L_copyRd (a := (0 + i)) (p := (((i + (vs).length) + ((s).length - j)) - i)) (c1 := (cap28 - i)) xI v_vs vs hR105 p_vs.rd hk0 (fun _ => rfl)) (by omega) (by omega) ?_)))))))
     intro w109 hR110 hg111
     have a0_112 := at_lo (a := (0 + i)) (cs := List.flatMap encSpanC vs) a0_107 (by (simp only [List.length_append, List.length_take, List.length_drop, List.length_replicate, List.length_cons, List.length_nil] <;> omega)) (Raw.le hR105 (by omega))
     have c_113 := at_hi (a := (0 + i)) (ys := vs) hk0 c_108 (by omega) (Raw.le2 hR105 (by omega))
     have b_114 := at_put (a := (0 + i)) (ys := vs) hk0 (Raw.le2 hR105 (by omega))
     have hg2 : World.grownBy w104 w109 (Value.ownBlock v_s) := by rw [yO hv30]; exact hg111
     replace hb := hb.grown hg2 hs (fun k hk => by rw [yO hv30] at hk; cases hk; exact hR105.base)
     replace hc := hc.trans2 (Ch.of_grown hg2) (fun k e => dr_p_s k e)
     replace hs := Nat.le_trans hs hg2.size
     replace hR100 := hR100.grown hg2 (by rw [yO hv30]; exact fun e => rne_p_s_p_vs (Option.some.inj e))
     clear hg2
     refine zE (zA (zF (zD (zI (zJ (zE (zA (zX (zH ?_)))))))))
     refine zO [.tmp 8] [(.slice (some ⟨g27, 0, none⟩) ((i + (vs).length) + ((s).length - j)) cap28)] rfl rfl ⟨by kernel_rfl, trivial⟩ ?_
     have hjn := at_join hk0 (at_join hk0 a0_112 (xO b_114 (by (simp only [List.length_append, List.length_take, List.length_drop, List.length_replicate, List.length_cons, List.length_nil] <;> omega)))) (xO c_113 (by (simp only [List.length_append, List.length_take, List.length_drop, List.length_replicate, List.length_cons, List.length_nil] <;> omega)))
     have hrr := Raw.row hR110 hk0 (N := ((i + (vs).length) + ((s).length - j))) (by (simp only [List.length_append, List.length_take, List.length_drop, List.length_replicate, List.length_cons, List.length_nil] <;> omega)) (by (simp only [List.length_append, List.length_take, List.length_drop, List.length_replicate, List.length_cons, List.length_nil] <;> omega)) hjn
     exact ⟨_, rfl, hrr, (fun g e => dr_p_s g (by rw [yO hv30]; exact e)), hc⟩
end Go.Proofs.YtkclikfejmeblaaGreatDoor
end
