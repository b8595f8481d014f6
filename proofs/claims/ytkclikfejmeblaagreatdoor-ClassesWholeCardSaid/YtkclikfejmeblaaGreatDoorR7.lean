/- Joined by my program pack.py out of my own texts: Wctb2 Wmbl2 Wctb3 Wclaw Wcwho. -/
import Derived.Test.YtkclikfejmeblaaGreatDoorProg
import Derived.Tactics2
import Derived.Test.YtkclikfejmeblaaGreatDoorR2
import Derived.Test.YtkclikfejmeblaaGreatDoorR3
import Derived.Test.YtkclikfejmeblaaGreatDoorR4
import Derived.Test.YtkclikfejmeblaaGreatDoorR5
import Derived.Test.YtkclikfejmeblaaGreatDoorR6
set_option linter.unusedVariables false
set_option linter.unusedSimpArgs false
/- === Wctb2 === -/
section
/- Walks, written by my program walk.py out of the specification ctb2.py: each theorem says what one function returns and that it leaves memory as it was. -/
namespace Go.Proofs.YtkclikfejmeblaaGreatDoor
open Go Go.RowKit Go.FK
set_option maxHeartbeats 4000000
set_option maxRecDepth 100000
set_option linter.unusedVariables false
set_option linter.unusedSimpArgs false
theorem c_tnone (b_t : Nat) (b_nm : Nat) (b_ln : Nat) (v_mm : Value) (b_wh : Nat) (w : World) (o_t : w.heap[b_t]? = some (.cells [(.pointer (some ⟨b_nm, 0, none⟩)), (.pointer (some ⟨b_ln, 0, none⟩)), v_mm, (.pointer (some ⟨b_wh, 0, none⟩))].toArray 66 (0, 0))) :
  Calls Tryz.prog 38 #[(.pointer (some ⟨b_t, 0, none⟩))] w (Ret fun v w' => v = (.bool false) ∧ Below w.heap.size w w') := by
 refine enter (args := [(.pointer (some ⟨b_t, 0, none⟩))]) Tryz.func38 rfl (by kernel_rfl : _ = 12) (by kernel_rfl) ?_
 have hb := Below.refl w.heap.size w
 have hs : w.heap.size ≤ w.heap.size := Nat.le_refl _
 refine zF (zD (zL (zE (zA (zF (zD (zJ (zT (.bool false) (by kernel_rfl) (by kernel_rfl) (zJ (zZ (by kernel_rfl) (zJ (zZ (by kernel_rfl) (zT (.pointer (some ⟨b_t, 0, none⟩)) (by kernel_rfl) (by kernel_rfl) (zZ (by kernel_rfl) (zT (.pointer (some ⟨b_t, 3, none⟩)) (by kernel_rfl) (by kernel_rfl) (zZ (by kernel_rfl) (yC b_t 3 (.pointer (some ⟨b_wh, 0, none⟩)) (by kernel_rfl) (by kernel_rfl) (zP o_t rfl) (zZ (by kernel_rfl) (zT (.bool false) (by kernel_rfl) (by kernel_rfl) (yR (by kernel_rfl) (zL (zE (zA (yA ?_))))))))))))))))))))))))
 refine zR [.tmp 2] [(.bool false)] rfl rfl ⟨by kernel_rfl, trivial⟩ ?_
 have e0 : false = false := by rfl
 exact ⟨congrArg Value.bool e0, hb⟩
theorem c_plain (r : Int) (w : World) :
  Calls Tryz.prog 40 #[(.int .i32 r)] w (Ret fun v w' => v = (.int .i32 (plainF r)) ∧ Below w.heap.size w w') := by
 refine enter (args := [(.int .i32 r)]) Tryz.func40 rfl (by kernel_rfl : _ = 10) (by kernel_rfl) ?_
 have hb := Below.refl w.heap.size w
 have hs : w.heap.size ≤ w.heap.size := Nat.le_refl _
 refine zF (zD (zL (zE (zA (zF (zF (zD (zJ (yE .i32 r 0 (r < 0) rfl (cmp_lt r 0) (by kernel_rfl) (by kernel_rfl) ?_ ?_)))))))))
 ·intro h1
  replace h1 : r < 0 := by omega
  refine zJ (yF (by kernel_rfl) (yF (by kernel_rfl) (yS (by kernel_rfl) (zE (zA (zV (by kernel_rfl) (zF (zD (zL (zE (zA (yA (zM ?_)))))))))))))
  refine zR [.tmp 2] [(.int .i32 65533)] rfl rfl ⟨by kernel_rfl, trivial⟩ ?_
  have e0 : (65533 : Int) = (plainF r) := by exact plain_y (by omega)
  exact ⟨congrArg (Value.int .i32) e0, hb⟩
 ·intro h2
  replace h2 : 0 ≤ r := by omega
  refine zJ (zZ (by kernel_rfl) (zJ (zZ (by kernel_rfl) (yE .i32 r 1114111 (1114111 < r) rfl (cmp_gt r 1114111) (by kernel_rfl) (by kernel_rfl) ?_ ?_))))
  ·intro h3
   replace h3 : 1114111 < r := by omega
   refine yR (by kernel_rfl) (zE (zA (zV (by kernel_rfl) (zF (zD (zL (zE (zA (yA (zM ?_))))))))))
   refine zR [.tmp 2] [(.int .i32 65533)] rfl rfl ⟨by kernel_rfl, trivial⟩ ?_
   have e0 : (65533 : Int) = (plainF r) := by exact plain_y (by omega)
   exact ⟨congrArg (Value.int .i32) e0, hb⟩
  ·intro h4
   replace h4 : r ≤ 1114111 := by omega
   refine yR (by kernel_rfl) (zE (zA (zQ (by kernel_rfl) (zY (zA (zF (zD (zJ (zL (zE (zA (yA ?_))))))))))))
   refine zR [.tmp 2] [(.int .i32 r)] rfl rfl ⟨by kernel_rfl, trivial⟩ ?_
   have e0 : (r : Int) = (plainF r) := by exact plain_n (by omega) (by omega)
   exact ⟨congrArg (Value.int .i32) e0, hb⟩
theorem c_tClass (b_t : Nat) (b_nm : Nat) (b_ln : Nat) (v_mm : Value) (b_wh : Nat) (r : Int) (v_wh : Value) (wh : List (Int × Int × Int)) (w : World) (o_t : w.heap[b_t]? = some (.cells [(.pointer (some ⟨b_nm, 0, none⟩)), (.pointer (some ⟨b_ln, 0, none⟩)), v_mm, (.pointer (some ⟨b_wh, 0, none⟩))].toArray 66 (0, 0))) (o_wh : w.heap[b_wh]? = some (.cells [v_wh, (.bool true)].toArray 115 (0, 0))) (p_wh : Rd w encSpanC v_wh wh) (hr : RiseG 0 wh) :
  Calls Tryz.prog 12 #[(.pointer (some ⟨b_t, 0, none⟩)), (.int .i32 r)] w (Ret fun v w' => v = (.int .u8 ((atM 0 wh (plainF r)).1)) ∧ Below w.heap.size w w') := by
 refine enter (args := [(.pointer (some ⟨b_t, 0, none⟩)), (.int .i32 r)]) Tryz.func12 rfl (by kernel_rfl : _ = 20) (by kernel_rfl) ?_
 have hb := Below.refl w.heap.size w
 have hs : w.heap.size ≤ w.heap.size := Nat.le_refl _
 have in_p_wh := p_wh
 refine zF (zD (zL (zE (zA (zF (zF (zD (zJ (yD 38 [(.pointer (some ⟨b_t, 0, none⟩))] (by kernel_rfl) (by kernel_rfl) (c_tnone b_t b_nm b_ln v_mm b_wh _ o_t) ?_)))))))))
 rintro _ w1 ⟨rfl, hB2⟩
 replace hb := hb.trans (hB2.mono hs)
 replace hs := Nat.le_trans hs (hB2.size)
 replace o_t := zB o_t hB2
 replace o_wh := zB o_wh hB2
 replace p_wh := p_wh.below hB2
 refine zE (zA (zQ (by kernel_rfl) (zY (zA (zF (W_quiet (by kernel_rfl) (by kernel_rfl) (yG (yK (.pointer (some ⟨b_t, 0, none⟩)) (fun _ => by kernel_rfl) (yK (.pointer (some ⟨b_t, 3, none⟩)) (fun _ => by kernel_rfl) (yN b_t 3 (.pointer (some ⟨b_wh, 0, none⟩)) (by kernel_rfl) (fun _ => by kernel_rfl) (zP o_t rfl) (yG (Lq_call 40 [(.int .i32 r)] (.int .i32 (plainF r)) (fun _ _ => by kernel_rfl) (fun wq hbq => c_plain r wq ) (Lq_call 39 [(.pointer (some ⟨b_wh, 0, none⟩)), (.int .i32 (plainF r))] (.tuple #[(.int .u8 ((atM 0 wh (plainF r)).1)), (.bool ((atM 0 wh (plainF r)).2))]) (fun _ _ => by kernel_rfl) (fun wq hbq => c_at_C b_wh v_wh wh (plainF r) wq (zB o_wh hbq) (p_wh.below hbq) (by exact hr)) (yG (yK (.int .u8 ((atM 0 wh (plainF r)).1)) (fun _ => by kernel_rfl) (yK (.bool ((atM 0 wh (plainF r)).2)) (fun _ => by kernel_rfl) (Lq_as (Lq_as (xB ?_)))))))))))))))))))
 intro w4 hB5
 replace hb := hb.trans (hB5.mono hs)
 replace hs := Nat.le_trans hs (hB5.size)
 replace o_t := zB o_t hB5
 replace o_wh := zB o_wh hB5
 replace p_wh := p_wh.below hB5
 refine zA (zF (zD (zJ (zL (zE (zA (yA ?_)))))))
 refine zR [.tmp 4] [(.int .u8 ((atM 0 wh (plainF r)).1))] rfl rfl ⟨by kernel_rfl, trivial⟩ ?_
 have e0 : ((atM 0 wh (plainF r)).1 : Int) = (atM 0 wh (plainF r)).1 := by first | rfl | (simp_all; done) | omega
 exact ⟨congrArg (Value.int .u8) e0, hb⟩
theorem c_tGiven (b_t : Nat) (b_nm : Nat) (b_ln : Nat) (v_mm : Value) (b_wh : Nat) (r : Int) (v_am : Value) (am : List (Int × Int × Int)) (w : World) (o_t : w.heap[b_t]? = some (.cells [(.pointer (some ⟨b_nm, 0, none⟩)), (.pointer (some ⟨b_ln, 0, none⟩)), v_mm, (.pointer (some ⟨b_wh, 0, none⟩))].toArray 66 (0, 0))) (o_nm : w.heap[b_nm]? = some (.cells [v_am, (.bool true)].toArray 115 (0, 0))) (p_am : Rd w encSpanC v_am am) (hr : RiseG 0 am) :
  Calls Tryz.prog 13 #[(.pointer (some ⟨b_t, 0, none⟩)), (.int .i32 r)] w (Ret fun v w' => v = (.tuple #[(.int .u8 ((atM 0 am (plainF r)).1)), (.bool ((atM 0 am (plainF r)).2))]) ∧ Below w.heap.size w w') := by
 refine enter (args := [(.pointer (some ⟨b_t, 0, none⟩)), (.int .i32 r)]) Tryz.func13 rfl (by kernel_rfl : _ = 17) (by kernel_rfl) ?_
 have hb := Below.refl w.heap.size w
 have hs : w.heap.size ≤ w.heap.size := Nat.le_refl _
 have in_p_am := p_am
 refine zF (zD (zL (zL (zE (zA (zF (zF (zD (zJ (yD 38 [(.pointer (some ⟨b_t, 0, none⟩))] (by kernel_rfl) (by kernel_rfl) (c_tnone b_t b_nm b_ln v_mm b_wh _ o_t) ?_))))))))))
 rintro _ w1 ⟨rfl, hB2⟩
 replace hb := hb.trans (hB2.mono hs)
 replace hs := Nat.le_trans hs (hB2.size)
 replace o_t := zB o_t hB2
 replace o_nm := zB o_nm hB2
 replace p_am := p_am.below hB2
 refine zE (zA (zQ (by kernel_rfl) (zY (zA (zF (W_quiet (by kernel_rfl) (by kernel_rfl) (yG (yK (.pointer (some ⟨b_t, 0, none⟩)) (fun _ => by kernel_rfl) (yK (.pointer (some ⟨b_t, 0, none⟩)) (fun _ => by kernel_rfl) (yN b_t 0 (.pointer (some ⟨b_nm, 0, none⟩)) (by kernel_rfl) (fun _ => by kernel_rfl) (zP o_t rfl) (yG (Lq_call 40 [(.int .i32 r)] (.int .i32 (plainF r)) (fun _ _ => by kernel_rfl) (fun wq hbq => c_plain r wq ) (Lq_call 39 [(.pointer (some ⟨b_nm, 0, none⟩)), (.int .i32 (plainF r))] (.tuple #[(.int .u8 ((atM 0 am (plainF r)).1)), (.bool ((atM 0 am (plainF r)).2))]) (fun _ _ => by kernel_rfl) (fun wq hbq => c_at_C b_nm v_am am (plainF r) wq (zB o_nm hbq) (p_am.below hbq) (by exact hr)) (yK (.int .u8 ((atM 0 am (plainF r)).1)) (fun _ => by kernel_rfl) (yK (.bool ((atM 0 am (plainF r)).2)) (fun _ => by kernel_rfl) (Lq_as (Lq_as (xB ?_))))))))))))))))))
 intro w4 hB5
 replace hb := hb.trans (hB5.mono hs)
 replace hs := Nat.le_trans hs (hB5.size)
 replace o_t := zB o_t hB5
 replace o_nm := zB o_nm hB5
 replace p_am := p_am.below hB5
 refine zA (yA ?_)
 refine zR [.tmp 4, .tmp 5] [(.int .u8 ((atM 0 am (plainF r)).1)), (.bool ((atM 0 am (plainF r)).2))] rfl rfl ⟨by kernel_rfl, by kernel_rfl, trivial⟩ ?_
 have hE : (((atM 0 am (plainF r)).1 : Int) = (atM 0 am (plainF r)).1) ∧ ((atM 0 am (plainF r)).2 = (atM 0 am (plainF r)).2) := ⟨(by first | rfl | (simp_all; done) | omega), (by first | rfl | (simp_all; done) | omega)⟩
 exact ⟨xJ (congrArg (Value.int .u8) hE.1) (congrArg Value.bool hE.2), hb⟩
theorem c_tLine (b_t : Nat) (b_nm : Nat) (b_ln : Nat) (v_mm : Value) (b_wh : Nat) (r : Int) (v_lm : Value) (lm : List (Int × Int × Int)) (w : World) (o_t : w.heap[b_t]? = some (.cells [(.pointer (some ⟨b_nm, 0, none⟩)), (.pointer (some ⟨b_ln, 0, none⟩)), v_mm, (.pointer (some ⟨b_wh, 0, none⟩))].toArray 66 (0, 0))) (o_ln : w.heap[b_ln]? = some (.cells [v_lm, (.bool true)].toArray 118 (0, 0))) (p_lm : Rd w encSpanI v_lm lm) (hr : RiseG 0 lm) :
  Calls Tryz.prog 14 #[(.pointer (some ⟨b_t, 0, none⟩)), (.int .i32 r)] w (Ret fun v w' => v = (.int .i64 ((atM 0 lm (plainF r)).1)) ∧ Below w.heap.size w w') := by
 refine enter (args := [(.pointer (some ⟨b_t, 0, none⟩)), (.int .i32 r)]) Tryz.func14 rfl (by kernel_rfl : _ = 20) (by kernel_rfl) ?_
 have hb := Below.refl w.heap.size w
 have hs : w.heap.size ≤ w.heap.size := Nat.le_refl _
 have in_p_lm := p_lm
 refine zF (zD (zL (zE (zA (zF (zF (zD (zJ (yD 38 [(.pointer (some ⟨b_t, 0, none⟩))] (by kernel_rfl) (by kernel_rfl) (c_tnone b_t b_nm b_ln v_mm b_wh _ o_t) ?_)))))))))
 rintro _ w1 ⟨rfl, hB2⟩
 replace hb := hb.trans (hB2.mono hs)
 replace hs := Nat.le_trans hs (hB2.size)
 replace o_t := zB o_t hB2
 replace o_ln := zB o_ln hB2
 replace p_lm := p_lm.below hB2
 refine zE (zA (zQ (by kernel_rfl) (zY (zA (zF (W_quiet (by kernel_rfl) (by kernel_rfl) (yG (yK (.pointer (some ⟨b_t, 0, none⟩)) (fun _ => by kernel_rfl) (yK (.pointer (some ⟨b_t, 1, none⟩)) (fun _ => by kernel_rfl) (yN b_t 1 (.pointer (some ⟨b_ln, 0, none⟩)) (by kernel_rfl) (fun _ => by kernel_rfl) (zP o_t rfl) (yG (Lq_call 40 [(.int .i32 r)] (.int .i32 (plainF r)) (fun _ _ => by kernel_rfl) (fun wq hbq => c_plain r wq ) (Lq_call 41 [(.pointer (some ⟨b_ln, 0, none⟩)), (.int .i32 (plainF r))] (.tuple #[(.int .i64 ((atM 0 lm (plainF r)).1)), (.bool ((atM 0 lm (plainF r)).2))]) (fun _ _ => by kernel_rfl) (fun wq hbq => c_at_I b_ln v_lm lm (plainF r) wq (zB o_ln hbq) (p_lm.below hbq) (by exact hr)) (yG (yK (.int .i64 ((atM 0 lm (plainF r)).1)) (fun _ => by kernel_rfl) (yK (.bool ((atM 0 lm (plainF r)).2)) (fun _ => by kernel_rfl) (Lq_as (Lq_as (xB ?_)))))))))))))))))))
 intro w4 hB5
 replace hb := hb.trans (hB5.mono hs)
 replace hs := Nat.le_trans hs (hB5.size)
 replace o_t := zB o_t hB5
 replace o_ln := zB o_ln hB5
 replace p_lm := p_lm.below hB5
 refine zA (zF (zD (zJ (zL (zE (zA (yA ?_)))))))
 refine zR [.tmp 4] [(.int .i64 ((atM 0 lm (plainF r)).1))] rfl rfl ⟨by kernel_rfl, trivial⟩ ?_
 have e0 : ((atM 0 lm (plainF r)).1 : Int) = (atM 0 lm (plainF r)).1 := by first | rfl | (simp_all; done) | omega
 exact ⟨congrArg (Value.int .i64) e0, hb⟩
theorem it_Named (bx_t b_t : Nat) (b_nm : Nat) (b_ln : Nat) (v_mm : Value) (b_wh : Nat) (v_am : Value) (am : List (Int × Int × Int)) (hl : am.length ≤ 4194304) :
  Iter (α := SpI) Tryz.prog 70 [.pointer (some ⟨bx_t, 0, none⟩)] (fun x => [.agg #[.int .i32 x.1, .int .i32 x.2.1], .int .u8 x.2.2]) am (fun w => w.heap[bx_t]? = some (.cells [(.pointer (some ⟨b_t, 0, none⟩))].toArray 23 (0, 0)) ∧ w.heap[b_t]? = some (.cells [(.pointer (some ⟨b_nm, 0, none⟩)), (.pointer (some ⟨b_ln, 0, none⟩)), v_mm, (.pointer (some ⟨b_wh, 0, none⟩))].toArray 66 (0, 0)) ∧ w.heap[b_nm]? = some (.cells [v_am, (.bool true)].toArray 115 (0, 0)) ∧ Rd w encSpanC v_am am) := by
 intro l J Jx w hN h0 hJs hJxs hY
 refine enter (args := [(.func (.yield l) #[] #[]), (.pointer (some ⟨bx_t, 0, none⟩))]) Tryz.func70 rfl (by kernel_rfl : _ = 13) (by kernel_rfl) ?_
 have hb := Below.refl w.heap.size w
 have hs : w.heap.size ≤ w.heap.size := Nat.le_refl _
 obtain ⟨o_capt, o_capg_t, o_capg_nm, p_am⟩ := hN
 have in_p_am := p_am
 refine zF (zD (yC bx_t 0 (.pointer (some ⟨b_t, 0, none⟩)) (by kernel_rfl) (by kernel_rfl) (zP o_capt rfl) (yD 38 [(.pointer (some ⟨b_t, 0, none⟩))] (by kernel_rfl) (by kernel_rfl) (c_tnone b_t b_nm b_ln v_mm b_wh _ o_capg_t) ?_)))
 rintro _ w1 ⟨rfl, hB2⟩
 replace hb := hb.trans (hB2.mono hs)
 replace hs := Nat.le_trans hs (hB2.size)
 replace o_capt := zB o_capt hB2
 replace o_capg_t := zB o_capg_t hB2
 replace o_capg_nm := zB o_capg_nm hB2
 replace p_am := p_am.below hB2
 refine L_not false (by kernel_rfl) (zE (zA (zV (by kernel_rfl) (zD (yC bx_t 0 (.pointer (some ⟨b_t, 0, none⟩)) (by kernel_rfl) (by kernel_rfl) (zP o_capt rfl) (zT (.pointer (some ⟨b_t, 0, none⟩)) (by kernel_rfl) (by kernel_rfl) (zT (.pointer (some ⟨b_t, 0, none⟩)) (by kernel_rfl) (by kernel_rfl) (yC b_t 0 (.pointer (some ⟨b_nm, 0, none⟩)) (by kernel_rfl) (by kernel_rfl) (zP o_capg_t rfl) (yD 35 [(.pointer (some ⟨b_nm, 0, none⟩))] (by kernel_rfl) (by kernel_rfl) (c_all_C b_nm v_am am _ o_capg_nm p_am) ?_)))))))))
 rintro _ w4 ⟨cb7, rfl, o_cb7, g_cb7, hB5⟩
 have ne_capt_cb7 : NE bx_t cb7 := by have := (zK o_capt); show _ ≠ _; omega
 have ne_cb7_capt := NE.symm ne_capt_cb7
 have ne_capg_t_cb7 : NE b_t cb7 := by have := (zK o_capg_t); show _ ≠ _; omega
 have ne_cb7_capg_t := NE.symm ne_capg_t_cb7
 have ne_capg_nm_cb7 : NE b_nm cb7 := by have := (zK o_capg_nm); show _ ≠ _; omega
 have ne_cb7_capg_nm := NE.symm ne_capg_nm_cb7
 replace g_cb7 := Nat.le_trans hs g_cb7
 replace hb := hb.trans (hB5.mono hs)
 replace hs := Nat.le_trans hs (hB5.size)
 replace o_capt := zB o_capt hB5
 replace o_capg_t := zB o_capg_t hB5
 replace o_capg_nm := zB o_capg_nm hB5
 replace p_am := p_am.below hB5
 refine zJ ?_
 have ltc_capt := zK o_capt
 have ltc_capg_t := zK o_capg_t
 have ltc_capg_nm := zK o_capg_nm
 refine yD 68 [(.func (.yield l) #[] #[]), (.pointer (some ⟨cb7, 0, none⟩))] (by kernel_rfl) (by kernel_rfl) (iter_tail (N := fun w => w.heap[bx_t]? = some (.cells [(.pointer (some ⟨b_t, 0, none⟩))].toArray 23 (0, 0)) ∧ w.heap[b_t]? = some (.cells [(.pointer (some ⟨b_nm, 0, none⟩)), (.pointer (some ⟨b_ln, 0, none⟩)), v_mm, (.pointer (some ⟨b_wh, 0, none⟩))].toArray 66 (0, 0)) ∧ w.heap[b_nm]? = some (.cells [v_am, (.bool true)].toArray 115 (0, 0)) ∧ Rd w encSpanC v_am am) (it_all_C cb7 b_nm v_am am (by omega)) ⟨o_cb7, o_capg_nm, p_am⟩ hs (fun A hA => h0 A (hb.trans (hA.mono hs))) hJs hJxs (fun A hA => ⟨zB o_capt hA, zB o_capg_t hA, zB o_capg_nm hA, p_am.below hA⟩) (fun K A B h hc => ⟨yI h.1 hc (fun hi => Nat.not_lt.2 hi.1 ltc_capt), yI h.2.1 hc (fun hi => Nat.not_lt.2 hi.1 ltc_capg_t), yI h.2.2.1 hc (fun hi => Nat.not_lt.2 hi.1 ltc_capg_nm), Rd.ch p_am (Nat.le_refl _) h.2.2.2 hc (fun k h => h.1)⟩) (fun K A B hK h1 hn hk => ⟨(hk.same _ ⟨g_cb7, Nat.lt_of_lt_of_le (zK o_cb7) hK⟩).trans h1.1, hn.2.2.1, hn.2.2.2⟩) hY) ?_
 rintro v9 w8 ⟨hsz, hres⟩
 refine zE ?_
 refine end_normal [] [] rfl rfl trivial ?_
 exact ⟨Nat.le_trans hs hsz, hres⟩
theorem c_tNamed (b_t : Nat) (b_nm : Nat) (b_ln : Nat) (v_mm : Value) (b_wh : Nat) (w : World) (o_t : w.heap[b_t]? = some (.cells [(.pointer (some ⟨b_nm, 0, none⟩)), (.pointer (some ⟨b_ln, 0, none⟩)), v_mm, (.pointer (some ⟨b_wh, 0, none⟩))].toArray 66 (0, 0))) :
  Calls Tryz.prog 36 #[(.pointer (some ⟨b_t, 0, none⟩))] w (Ret fun v w' => ∃ (cb0 : Nat), v = (.func (.func 70) #[] #[(.pointer (some ⟨cb0, 0, none⟩))]) ∧ w'.heap[cb0]? = some (.cells [(.pointer (some ⟨b_t, 0, none⟩))].toArray 23 (0, 0)) ∧ w.heap.size ≤ cb0 ∧ Below w.heap.size w w') := by
 refine enter (args := [(.pointer (some ⟨b_t, 0, none⟩))]) Tryz.func36 rfl (by kernel_rfl : _ = 4) (by kernel_rfl) ?_
 have hb := Below.refl w.heap.size w
 have hs : w.heap.size ≤ w.heap.size := Nat.le_refl _
 refine zF (zD (yX (fun b => .pointer (some ⟨b, 0, none⟩)) (.cells [(.pointer (some ⟨b_t, 0, none⟩))].toArray 23 (0, 0)) (by kernel_rfl) (by kernel_rfl) ?_))
 intro b1 w2 hN3
 have ne_t_x1 : NE b_t b1 := by have := (zK o_t); have := hN3.num; show _ ≠ _; omega
 have ne_x1_t := NE.symm ne_t_x1
 have g_x1 : w.heap.size ≤ b1 := by rw [hN3.num]; exact hs
 replace hb := hb.trans (hN3.below.mono hs)
 replace hs := Nat.le_trans hs (hN3.below.size)
 replace o_t := zB o_t hN3.below
 have o_x1 := hN3.here
 refine zL (zE (zA (zF (zD (zT (.func (.func 70) #[] #[(.pointer (some ⟨b1, 0, none⟩))]) (by kernel_rfl) (by kernel_rfl) (zL (zE (zA (yA ?_)))))))))
 refine zR [.tmp 2] [(.func (.func 70) #[] #[(.pointer (some ⟨b1, 0, none⟩))])] rfl rfl ⟨by kernel_rfl, trivial⟩ ?_
 exact ⟨b1, rfl, o_x1, g_x1, hb⟩
theorem it_Whole (bx_t b_t : Nat) (b_nm : Nat) (b_ln : Nat) (v_mm : Value) (b_wh : Nat) (v_wh : Value) (wh : List (Int × Int × Int)) (hl : wh.length ≤ 4194304) :
  Iter (α := SpI) Tryz.prog 71 [.pointer (some ⟨bx_t, 0, none⟩)] (fun x => [.agg #[.int .i32 x.1, .int .i32 x.2.1], .int .u8 x.2.2]) wh (fun w => w.heap[bx_t]? = some (.cells [(.pointer (some ⟨b_t, 0, none⟩))].toArray 23 (0, 0)) ∧ w.heap[b_t]? = some (.cells [(.pointer (some ⟨b_nm, 0, none⟩)), (.pointer (some ⟨b_ln, 0, none⟩)), v_mm, (.pointer (some ⟨b_wh, 0, none⟩))].toArray 66 (0, 0)) ∧ w.heap[b_wh]? = some (.cells [v_wh, (.bool true)].toArray 115 (0, 0)) ∧ Rd w encSpanC v_wh wh) := by
 intro l J Jx w hN h0 hJs hJxs hY
 refine enter (args := [(.func (.yield l) #[] #[]), (.pointer (some ⟨bx_t, 0, none⟩))]) Tryz.func71 rfl (by kernel_rfl : _ = 13) (by kernel_rfl) ?_
 have hb := Below.refl w.heap.size w
 have hs : w.heap.size ≤ w.heap.size := Nat.le_refl _
 obtain ⟨o_capt, o_capg_t, o_capg_wh, p_wh⟩ := hN
 have in_p_wh := p_wh
 refine zF (zD (yC bx_t 0 (.pointer (some ⟨b_t, 0, none⟩)) (by kernel_rfl) (by kernel_rfl) (zP o_capt rfl) (yD 38 [(.pointer (some ⟨b_t, 0, none⟩))] (by kernel_rfl) (by kernel_rfl) (c_tnone b_t b_nm b_ln v_mm b_wh _ o_capg_t) ?_)))
 rintro _ w1 ⟨rfl, hB2⟩
 replace hb := hb.trans (hB2.mono hs)
 replace hs := Nat.le_trans hs (hB2.size)
 replace o_capt := zB o_capt hB2
 replace o_capg_t := zB o_capg_t hB2
 replace o_capg_wh := zB o_capg_wh hB2
 replace p_wh := p_wh.below hB2
 refine L_not false (by kernel_rfl) (zE (zA (zV (by kernel_rfl) (zD (yC bx_t 0 (.pointer (some ⟨b_t, 0, none⟩)) (by kernel_rfl) (by kernel_rfl) (zP o_capt rfl) (zT (.pointer (some ⟨b_t, 0, none⟩)) (by kernel_rfl) (by kernel_rfl) (zT (.pointer (some ⟨b_t, 3, none⟩)) (by kernel_rfl) (by kernel_rfl) (yC b_t 3 (.pointer (some ⟨b_wh, 0, none⟩)) (by kernel_rfl) (by kernel_rfl) (zP o_capg_t rfl) (yD 35 [(.pointer (some ⟨b_wh, 0, none⟩))] (by kernel_rfl) (by kernel_rfl) (c_all_C b_wh v_wh wh _ o_capg_wh p_wh) ?_)))))))))
 rintro _ w4 ⟨cb7, rfl, o_cb7, g_cb7, hB5⟩
 have ne_capt_cb7 : NE bx_t cb7 := by have := (zK o_capt); show _ ≠ _; omega
 have ne_cb7_capt := NE.symm ne_capt_cb7
 have ne_capg_t_cb7 : NE b_t cb7 := by have := (zK o_capg_t); show _ ≠ _; omega
 have ne_cb7_capg_t := NE.symm ne_capg_t_cb7
 have ne_capg_wh_cb7 : NE b_wh cb7 := by have := (zK o_capg_wh); show _ ≠ _; omega
 have ne_cb7_capg_wh := NE.symm ne_capg_wh_cb7
 replace g_cb7 := Nat.le_trans hs g_cb7
 replace hb := hb.trans (hB5.mono hs)
 replace hs := Nat.le_trans hs (hB5.size)
 replace o_capt := zB o_capt hB5
 replace o_capg_t := zB o_capg_t hB5
 replace o_capg_wh := zB o_capg_wh hB5
 replace p_wh := p_wh.below hB5
 refine zJ ?_
 have ltc_capt := zK o_capt
 have ltc_capg_t := zK o_capg_t
 have ltc_capg_wh := zK o_capg_wh
 refine yD 68 [(.func (.yield l) #[] #[]), (.pointer (some ⟨cb7, 0, none⟩))] (by kernel_rfl) (by kernel_rfl) (iter_tail (N := fun w => w.heap[bx_t]? = some (.cells [(.pointer (some ⟨b_t, 0, none⟩))].toArray 23 (0, 0)) ∧ w.heap[b_t]? = some (.cells [(.pointer (some ⟨b_nm, 0, none⟩)), (.pointer (some ⟨b_ln, 0, none⟩)), v_mm, (.pointer (some ⟨b_wh, 0, none⟩))].toArray 66 (0, 0)) ∧ w.heap[b_wh]? = some (.cells [v_wh, (.bool true)].toArray 115 (0, 0)) ∧ Rd w encSpanC v_wh wh) (it_all_C cb7 b_wh v_wh wh (by omega)) ⟨o_cb7, o_capg_wh, p_wh⟩ hs (fun A hA => h0 A (hb.trans (hA.mono hs))) hJs hJxs (fun A hA => ⟨zB o_capt hA, zB o_capg_t hA, zB o_capg_wh hA, p_wh.below hA⟩) (fun K A B h hc => ⟨yI h.1 hc (fun hi => Nat.not_lt.2 hi.1 ltc_capt), yI h.2.1 hc (fun hi => Nat.not_lt.2 hi.1 ltc_capg_t), yI h.2.2.1 hc (fun hi => Nat.not_lt.2 hi.1 ltc_capg_wh), Rd.ch p_wh (Nat.le_refl _) h.2.2.2 hc (fun k h => h.1)⟩) (fun K A B hK h1 hn hk => ⟨(hk.same _ ⟨g_cb7, Nat.lt_of_lt_of_le (zK o_cb7) hK⟩).trans h1.1, hn.2.2.1, hn.2.2.2⟩) hY) ?_
 rintro v9 w8 ⟨hsz, hres⟩
 refine zE ?_
 refine end_normal [] [] rfl rfl trivial ?_
 exact ⟨Nat.le_trans hs hsz, hres⟩
theorem c_tWhole (b_t : Nat) (b_nm : Nat) (b_ln : Nat) (v_mm : Value) (b_wh : Nat) (w : World) (o_t : w.heap[b_t]? = some (.cells [(.pointer (some ⟨b_nm, 0, none⟩)), (.pointer (some ⟨b_ln, 0, none⟩)), v_mm, (.pointer (some ⟨b_wh, 0, none⟩))].toArray 66 (0, 0))) :
  Calls Tryz.prog 37 #[(.pointer (some ⟨b_t, 0, none⟩))] w (Ret fun v w' => ∃ (cb0 : Nat), v = (.func (.func 71) #[] #[(.pointer (some ⟨cb0, 0, none⟩))]) ∧ w'.heap[cb0]? = some (.cells [(.pointer (some ⟨b_t, 0, none⟩))].toArray 23 (0, 0)) ∧ w.heap.size ≤ cb0 ∧ Below w.heap.size w w') := by
 refine enter (args := [(.pointer (some ⟨b_t, 0, none⟩))]) Tryz.func37 rfl (by kernel_rfl : _ = 4) (by kernel_rfl) ?_
 have hb := Below.refl w.heap.size w
 have hs : w.heap.size ≤ w.heap.size := Nat.le_refl _
 refine zF (zD (yX (fun b => .pointer (some ⟨b, 0, none⟩)) (.cells [(.pointer (some ⟨b_t, 0, none⟩))].toArray 23 (0, 0)) (by kernel_rfl) (by kernel_rfl) ?_))
 intro b1 w2 hN3
 have ne_t_x1 : NE b_t b1 := by have := (zK o_t); have := hN3.num; show _ ≠ _; omega
 have ne_x1_t := NE.symm ne_t_x1
 have g_x1 : w.heap.size ≤ b1 := by rw [hN3.num]; exact hs
 replace hb := hb.trans (hN3.below.mono hs)
 replace hs := Nat.le_trans hs (hN3.below.size)
 replace o_t := zB o_t hN3.below
 have o_x1 := hN3.here
 refine zL (zE (zA (zF (zD (zT (.func (.func 71) #[] #[(.pointer (some ⟨b1, 0, none⟩))]) (by kernel_rfl) (by kernel_rfl) (zL (zE (zA (yA ?_)))))))))
 refine zR [.tmp 2] [(.func (.func 71) #[] #[(.pointer (some ⟨b1, 0, none⟩))])] rfl rfl ⟨by kernel_rfl, trivial⟩ ?_
 exact ⟨b1, rfl, o_x1, g_x1, hb⟩
end Go.Proofs.YtkclikfejmeblaaGreatDoor
end

/- === Wmbl2 === -/
section
/- Walks, written by my program walk.py out of the specification mbl2.py: each theorem says what one function returns and that it leaves memory as it was. -/
namespace Go.Proofs.YtkclikfejmeblaaGreatDoor
open Go Go.RowKit Go.FK
set_option linter.unusedVariables false
set_option linter.unusedSimpArgs false
end Go.Proofs.YtkclikfejmeblaaGreatDoor
end

/- === Wctb3 === -/
section
/- Walks, written by my program walk.py out of the specification ctb3.py: each theorem says what one function returns and that it leaves memory as it was. -/
namespace Go.Proofs.YtkclikfejmeblaaGreatDoor
open Go Go.RowKit Go.FK
set_option maxHeartbeats 4000000
set_option maxRecDepth 100000
set_option linter.unusedVariables false
set_option linter.unusedSimpArgs false
theorem c_toldN (b_t : Nat) (b_nm : Nat) (b_ln : Nat) (v_mm : Value) (b_wh : Nat) (few : Int) (v_am : Value) (am : List (Int × Int × Int)) (w : World) (o_t : w.heap[b_t]? = some (.cells [(.pointer (some ⟨b_nm, 0, none⟩)), (.pointer (some ⟨b_ln, 0, none⟩)), v_mm, (.pointer (some ⟨b_wh, 0, none⟩))].toArray 66 (0, 0))) (o_nm : w.heap[b_nm]? = some (.cells [v_am, (.bool true)].toArray 115 (0, 0))) (p_am : Rd w encSpanC v_am am) (hl : am.length ≤ 1114112) :
  Calls Tryz.prog 11 #[(.pointer (some ⟨b_t, 0, none⟩)), (.bool false), (.int .i64 few)] w (Ret fun v w' => ∃ (q0 : Value), v = q0 ∧ Row w' w.heap.size 34 3 encSpanC q0 (fewC am few) ∧ Below w.heap.size w w') := by
 refine enterM (args := [(.pointer (some ⟨b_t, 0, none⟩)), (.bool false), (.int .i64 few)]) Tryz.func11 rfl (by kernel_rfl : _ = 39) (by kernel_rfl) ?_
 have hb := Below.refl w.heap.size w
 have hs : w.heap.size ≤ w.heap.size := Nat.le_refl _
 have in_p_am := p_am
 refine zF (zD (yX (fun b => .pointer (some ⟨b, 0, none⟩)) (.cells [(.int .i64 few)].toArray 3 (0, 0)) (by kernel_rfl) (by kernel_rfl) ?_))
 intro b1 w2 hN3
 have ne_t_x5 : NE b_t b1 := by have := (zK o_t); have := hN3.num; show _ ≠ _; omega
 have ne_x5_t := NE.symm ne_t_x5
 have ne_nm_x5 : NE b_nm b1 := by have := (zK o_nm); have := hN3.num; show _ ≠ _; omega
 have ne_x5_nm := NE.symm ne_nm_x5
 have g_x5 : w.heap.size ≤ b1 := by rw [hN3.num]; exact hs
 replace hb := hb.trans (hN3.below.mono hs)
 replace hs := Nat.le_trans hs (hN3.below.size)
 replace o_t := zB o_t hN3.below
 replace o_nm := zB o_nm hN3.below
 replace p_am := p_am.below hN3.below
 have o_x5 := hN3.here
 refine yX (fun b => .pointer (some ⟨b, 0, none⟩)) (.cells [(.slice none 0 0)].toArray 29 (0, 0)) (by kernel_rfl) (by kernel_rfl) ?_
 intro b4 w5 hN6
 have ne_t_x6 : NE b_t b4 := by have := (zK o_t); have := hN6.num; show _ ≠ _; omega
 have ne_x6_t := NE.symm ne_t_x6
 have ne_nm_x6 : NE b_nm b4 := by have := (zK o_nm); have := hN6.num; show _ ≠ _; omega
 have ne_x6_nm := NE.symm ne_nm_x6
 have ne_x5_x6 : NE b1 b4 := by have := (zK o_x5); have := hN6.num; show _ ≠ _; omega
 have ne_x6_x5 := NE.symm ne_x5_x6
 have g_x6 : w.heap.size ≤ b4 := by rw [hN6.num]; exact hs
 replace hb := hb.trans (hN6.below.mono hs)
 replace hs := Nat.le_trans hs (hN6.below.size)
 replace o_t := zB o_t hN6.below
 replace o_nm := zB o_nm hN6.below
 replace o_x5 := zB o_x5 hN6.below
 replace p_am := p_am.below hN6.below
 have o_x6 := hN6.here
 refine zE (zA (zF (zD (zJ (yD 36 [(.pointer (some ⟨b_t, 0, none⟩))] (by kernel_rfl) (by kernel_rfl) (c_tNamed b_t b_nm b_ln v_mm b_wh _ o_t) ?_)))))
 rintro _ w7 ⟨cb10, rfl, o_cb10, g_cb10, hB8⟩
 have ne_t_cb10 : NE b_t cb10 := by have := (zK o_t); show _ ≠ _; omega
 have ne_cb10_t := NE.symm ne_t_cb10
 have ne_nm_cb10 : NE b_nm cb10 := by have := (zK o_nm); show _ ≠ _; omega
 have ne_cb10_nm := NE.symm ne_nm_cb10
 have ne_x5_cb10 : NE b1 cb10 := by have := (zK o_x5); show _ ≠ _; omega
 have ne_cb10_x5 := NE.symm ne_x5_cb10
 have ne_x6_cb10 : NE b4 cb10 := by have := (zK o_x6); show _ ≠ _; omega
 have ne_cb10_x6 := NE.symm ne_x6_cb10
 replace g_cb10 := Nat.le_trans hs g_cb10
 replace hb := hb.trans (hB8.mono hs)
 replace hs := Nat.le_trans hs (hB8.size)
 replace o_t := zB o_t hB8
 replace o_nm := zB o_nm hB8
 replace o_x5 := zB o_x5 hB8
 replace o_x6 := zB o_x6 hB8
 replace p_am := p_am.below hB8
 refine zL (zE (zA (zF (zF (zD (zJ (zE (zA (zQ (by kernel_rfl) (zY (zA (zF (zD (yX (fun b => .pointer (some ⟨b, 0, none⟩)) (.cells [(.slice none 0 0)].toArray 29 (0, 0)) (by kernel_rfl) (by kernel_rfl) ?_))))))))))))))
 intro b11 w12 hN13
 have ne_t_x8 : NE b_t b11 := by have := (zK o_t); have := hN13.num; show _ ≠ _; omega
 have ne_x8_t := NE.symm ne_t_x8
 have ne_nm_x8 : NE b_nm b11 := by have := (zK o_nm); have := hN13.num; show _ ≠ _; omega
 have ne_x8_nm := NE.symm ne_nm_x8
 have ne_x5_x8 : NE b1 b11 := by have := (zK o_x5); have := hN13.num; show _ ≠ _; omega
 have ne_x8_x5 := NE.symm ne_x5_x8
 have ne_x6_x8 : NE b4 b11 := by have := (zK o_x6); have := hN13.num; show _ ≠ _; omega
 have ne_x8_x6 := NE.symm ne_x6_x8
 have ne_cb10_x8 : NE cb10 b11 := by have := (zK o_cb10); have := hN13.num; show _ ≠ _; omega
 have ne_x8_cb10 := NE.symm ne_cb10_x8
 have g_x8 : w.heap.size ≤ b11 := by rw [hN13.num]; exact hs
 replace hb := hb.trans (hN13.below.mono hs)
 replace hs := Nat.le_trans hs (hN13.below.size)
 replace o_t := zB o_t hN13.below
 replace o_nm := zB o_nm hN13.below
 replace o_x5 := zB o_x5 hN13.below
 replace o_x6 := zB o_x6 hN13.below
 replace o_cb10 := zB o_cb10 hN13.below
 replace p_am := p_am.below hN13.below
 have o_x8 := hN13.here
 refine zE (zA (zF (zF (zD (zJ (zT (.bool false) (by kernel_rfl) (by kernel_rfl) (zE (zA (zQ (by kernel_rfl) (zY (zA (zF (zF (zD (zJ (zE (zA (yU ?_))))))))))))))))))
 have lt_t_0 : b_t < w12.heap.size := zK o_t
 have lt_nm_0 : b_nm < w12.heap.size := zK o_nm
 have lt_x5_0 : b1 < w12.heap.size := zK o_x5
 have lt_x6_0 : b4 < w12.heap.size := zK o_x6
 have lt_cb10_0 : cb10 < w12.heap.size := zK o_cb10
 have lt_x8_0 : b11 < w12.heap.size := zK o_x8
 have hs_0 := hs
 have hb_0 := hb
 refine W_range 70 [(.pointer (some ⟨cb10, 0, none⟩))] am (by kernel_rfl) (fun _ _ => rfl) (it_Named cb10 b_t b_nm b_ln v_mm b_wh v_am am (by omega)) ⟨o_cb10, o_t, o_nm, p_am⟩ ((fun D A B h hc hd => ⟨yI h.1 hc (fun h => Nat.not_lt.2 (hd _ h) lt_cb10_0), yI h.2.1 hc (fun h => Nat.not_lt.2 (hd _ h) lt_t_0), yI h.2.2.1 hc (fun h => Nat.not_lt.2 (hd _ h) lt_nm_0), Rd.ch p_am (Nat.le_refl _) h.2.2.2 hc hd⟩)) (by intro x; rfl) (fun K pre A => ∃ (acc : List SpI) (v_x8_0 : Value), (A.heap[b_t]? = some (.cells [(.pointer (some ⟨b_nm, 0, none⟩)), (.pointer (some ⟨b_ln, 0, none⟩)), v_mm, (.pointer (some ⟨b_wh, 0, none⟩))].toArray 66 (0, 0))) ∧ (A.heap[b_nm]? = some (.cells [v_am, (.bool true)].toArray 115 (0, 0))) ∧ (A.heap[b1]? = some (.cells [(.int .i64 few)].toArray 3 (0, 0))) ∧ (A.heap[b4]? = some (.cells [(.slice none 0 0)].toArray 29 (0, 0))) ∧ (A.heap[cb10]? = some (.cells [(.pointer (some ⟨b_t, 0, none⟩))].toArray 23 (0, 0))) ∧ (A.heap[b11]? = some (.cells [v_x8_0].toArray 29 (0, 0))) ∧ (Row A w.heap.size 34 3 encSpanC v_x8_0 acc) ∧ (∀ g, Value.ownBlock v_x8_0 = some g → ¬ Iv w12.heap.size K g) ∧ (Below w.heap.size w A) ∧ (acc = pre) ∧ (few < 0 ∨ (pre.length : Int) ≤ few)) (fun K c pre A => (∃ (acc : List SpI) (v_x6_0 : Value), (c = .ret) ∧ (A.heap[b_t]? = some (.cells [(.pointer (some ⟨b_nm, 0, none⟩)), (.pointer (some ⟨b_ln, 0, none⟩)), v_mm, (.pointer (some ⟨b_wh, 0, none⟩))].toArray 66 (0, 0))) ∧ (A.heap[b_nm]? = some (.cells [v_am, (.bool true)].toArray 115 (0, 0))) ∧ (A.heap[b1]? = some (.cells [(.int .i64 few)].toArray 3 (0, 0))) ∧ (A.heap[b4]? = some (.cells [v_x6_0].toArray 29 (0, 0))) ∧ (A.heap[cb10]? = some (.cells [(.pointer (some ⟨b_t, 0, none⟩))].toArray 23 (0, 0))) ∧ (Row A w.heap.size 34 3 encSpanC v_x6_0 acc) ∧ (∀ g, Value.ownBlock v_x6_0 = some g → ¬ Iv w12.heap.size K g) ∧ (Below w.heap.size w A) ∧ (acc = pre) ∧ ((pre.length : Int) = few + 1) ∧ (0 ≤ few))) ?_ ?_ ?_ ?_ ?_ ?_
 ·intro A hA
  exact ⟨[], (.slice none 0 0), zB o_t hA, zB o_nm hA, zB o_x5 hA, zB o_x6 hA, zB o_cb10 hA, zB o_x8 hA, Row.nil _ _ _ _ _, nr_nil _ _, hb.trans (hA.mono hs), by rfl, by (simp only [List.length_nil]; omega)⟩
 ·rintro K pre A B ⟨acc, v_x8_0, o_t, o_nm, o_x5, o_x6, o_cb10, o_x8, r_x8_0, nr_r_x8_0, hb, p1, p2⟩ hc
  exact ⟨acc, v_x8_0, yI o_t hc (fun h => Nat.not_lt.2 h.1 lt_t_0), yI o_nm hc (fun h => Nat.not_lt.2 h.1 lt_nm_0), yI o_x5 hc (fun h => Nat.not_lt.2 h.1 lt_x5_0), yI o_x6 hc (fun h => Nat.not_lt.2 h.1 lt_x6_0), yI o_cb10 hc (fun h => Nat.not_lt.2 h.1 lt_cb10_0), yI o_x8 hc (fun h => Nat.not_lt.2 h.1 lt_x8_0), r_x8_0.ch hc nr_r_x8_0, nr_r_x8_0, hc.below hb hb.size (fun k h => Nat.le_trans hs_0 h.1), p1, p2⟩
 ·rintro K c pre A B (⟨acc, v_x6_0, hcc, o_t, o_nm, o_x5, o_x6, o_cb10, r_x6_0, nr_r_x6_0, hb, q1, q2, q3⟩) hc
  exact ⟨acc, v_x6_0, hcc, yI o_t hc (fun h => Nat.not_lt.2 h.1 lt_t_0), yI o_nm hc (fun h => Nat.not_lt.2 h.1 lt_nm_0), yI o_x5 hc (fun h => Nat.not_lt.2 h.1 lt_x5_0), yI o_x6 hc (fun h => Nat.not_lt.2 h.1 lt_x6_0), yI o_cb10 hc (fun h => Nat.not_lt.2 h.1 lt_cb10_0), r_x6_0.ch hc nr_r_x6_0, nr_r_x6_0, hc.below hb hb.size (fun k h => Nat.le_trans hs_0 h.1), q1, q2, q3⟩
 ·intro l K pre x A hi hN hK0 hK hpre
  obtain ⟨acc, v_x8_0, o_t, o_nm, o_x5, o_x6, o_cb10, o_x8, r_x8_0, nr_r_x8_0, hb, p1, p2⟩ := hi
  have hs := hb.size
  have hk := Kp.refl (w12.heap.size) K A
  have nv_t : ¬ Iv (w12.heap.size) K b_t := fun h => Nat.not_lt.2 h.1 lt_t_0
  have nv_nm : ¬ Iv (w12.heap.size) K b_nm := fun h => Nat.not_lt.2 h.1 lt_nm_0
  have nv_x5 : ¬ Iv (w12.heap.size) K b1 := fun h => Nat.not_lt.2 h.1 lt_x5_0
  have nv_x6 : ¬ Iv (w12.heap.size) K b4 := fun h => Nat.not_lt.2 h.1 lt_x6_0
  have nv_cb10 : ¬ Iv (w12.heap.size) K cb10 := fun h => Nat.not_lt.2 h.1 lt_cb10_0
  have nv_x8 : ¬ Iv (w12.heap.size) K b11 := fun h => Nat.not_lt.2 h.1 lt_x8_0
  have p_am := in_p_am.below hb
  replace o_cb10 := hN.1
  replace o_t := hN.2.1
  replace o_nm := hN.2.2.1
  have hlt := tk_lt hpre
  have hal : acc.length = pre.length := by rw [p1]
  refine zF (zD (yX (fun b => .pointer (some ⟨b, 0, none⟩)) (.cells [(.int .i32 0), (.int .i32 0)].toArray 32 (0, 0)) (by kernel_rfl) (by kernel_rfl) ?_))
  intro b14 w15 hN16
  have ne_t_x9 : NE b_t b14 := by have := (zK o_t); have := hN16.num; show _ ≠ _; omega
  have ne_x9_t := NE.symm ne_t_x9
  have ne_nm_x9 : NE b_nm b14 := by have := (zK o_nm); have := hN16.num; show _ ≠ _; omega
  have ne_x9_nm := NE.symm ne_nm_x9
  have ne_x5_x9 : NE b1 b14 := by have := (zK o_x5); have := hN16.num; show _ ≠ _; omega
  have ne_x9_x5 := NE.symm ne_x5_x9
  have ne_x6_x9 : NE b4 b14 := by have := (zK o_x6); have := hN16.num; show _ ≠ _; omega
  have ne_x9_x6 := NE.symm ne_x6_x9
  have ne_cb10_x9 : NE cb10 b14 := by have := (zK o_cb10); have := hN16.num; show _ ≠ _; omega
  have ne_x9_cb10 := NE.symm ne_cb10_x9
  have ne_x8_x9 : NE b11 b14 := by have := (zK o_x8); have := hN16.num; show _ ≠ _; omega
  have ne_x9_x8 := NE.symm ne_x8_x9
  have g_x9 : w.heap.size ≤ b14 := by rw [hN16.num]; exact hs
  have nv_x9 : ¬ Iv w12.heap.size K b14 := fun h => by have := h.2; have := hN16.num; omega
  replace hb := hb.trans (hN16.below.mono hs)
  replace hk := hk.ch (Ch.of_below hN16.below) hK (fun _ h => h.elim)
  replace hK := Nat.le_trans hK (hN16.below.size)
  replace hs := Nat.le_trans hs (hN16.below.size)
  replace o_t := zB o_t hN16.below
  replace o_nm := zB o_nm hN16.below
  replace o_x5 := zB o_x5 hN16.below
  replace o_x6 := zB o_x6 hN16.below
  replace o_cb10 := zB o_cb10 hN16.below
  replace o_x8 := zB o_x8 hN16.below
  replace p_am := p_am.below hN16.below
  replace r_x8_0 := r_x8_0.below hN16.below
  have o_x9 := hN16.here
  refine yT b14 0 [(.int .i32 x.1), (.int .i32 x.2.1)] [(.int .i32 0), (.int .i32 0)] [(.int .i32 x.1), (.int .i32 x.2.1)] 32 (by kernel_rfl) (by kernel_rfl) rfl (by kernel_rfl) o_x9 (by kernel_rfl) rfl ?_
  intro w17 hW18
  replace hb := hb.trans (hW18.below g_x9)
  replace hk := hk.ch (Ch.of_wrote hW18) hK (fun k e h => nv_x9 (e ▸ h))
  replace hK := Nat.le_trans hK (Nat.le_of_eq hW18.size.symm)
  replace hs := Nat.le_trans hs (Nat.le_of_eq hW18.size.symm)
  replace o_t := zG o_t hW18 (zO o_t o_x9 (by simp))
  replace o_nm := zG o_nm hW18 (zO o_nm o_x9 (by simp))
  replace o_x5 := zG o_x5 hW18 (zO o_x5 o_x9 (by simp))
  replace o_x6 := zG o_x6 hW18 (zO o_x6 o_x9 (by simp))
  replace o_cb10 := zG o_cb10 hW18 (zO o_cb10 o_x9 (by simp))
  replace o_x8 := zG o_x8 hW18 (zO o_x8 o_x9 (by simp))
  replace p_am := in_p_am.below hb
  replace r_x8_0 := r_x8_0.wrote hW18 (r_x8_0.ne o_x9 (by simp))
  replace o_x9 := hW18.here
  refine zE (zA (zD (zL (zE ?_))))
  refine zA ⟨hk, ?_⟩
  intro w19 hc20
  replace o_t := yI o_t hc20 nv_t
  replace o_nm := yI o_nm hc20 nv_nm
  replace o_x5 := yI o_x5 hc20 nv_x5
  replace o_x6 := yI o_x6 hc20 nv_x6
  replace o_cb10 := yI o_cb10 hc20 nv_cb10
  replace o_x8 := yI o_x8 hc20 nv_x8
  replace o_x9 := yI o_x9 hc20 nv_x9
  replace r_x8_0 := r_x8_0.ch hc20 nr_r_x8_0
  replace hb := hc20.below hb hs (fun k h => Nat.le_trans hs_0 h.1)
  replace p_am := in_p_am.below hb
  replace hs := hb.size
  replace hK := Nat.le_trans hK hc20.size
  replace hk := Kp.refl (w12.heap.size) K w19
  refine yU (zF (zD (yC b11 0 v_x8_0 (by kernel_rfl) (by kernel_rfl) (zP o_x8 rfl) (xA b14 0 [(.int .i32 x.1), (.int .i32 x.2.1)] (by kernel_rfl) (by kernel_rfl) (by kernel_rfl) (yP o_x9 0 (by kernel_rfl)) (zJ (zT (Value.agg #[(.int .i32 x.1), (.int .i32 x.2.1), (.int .u8 x.2.2)]) (by kernel_rfl) (by kernel_rfl) (L_app el29 w.heap.size v_x8_0 acc (x.1, x.2.1, x.2.2) hs r_x8_0 (by omega) (by kernel_rfl) rfl rfl (by kernel_rfl) rfl (by kernel_rfl) (by kernel_rfl) ?_)))))))
  intro v21 w22 hr23 hg24 how25
  have nr2 := nr_app how25 nr_r_x8_0 hK
  replace hb := hb.grown hg24 hs (fun k hk => (World.ownsRow.lt r_x8_0 k hk).1)
  replace hk := hk.ch (Ch.of_grown hg24) hK (fun k e => nr_r_x8_0 k e)
  replace hK := Nat.le_trans hK (hg24.size)
  replace hs := Nat.le_trans hs (hg24.size)
  replace o_t := yB o_t hg24 (r_x8_0.ne o_t (by simp))
  replace o_nm := yB o_nm hg24 (r_x8_0.ne o_nm (by simp))
  replace o_x5 := yB o_x5 hg24 (r_x8_0.ne o_x5 (by simp))
  replace o_x6 := yB o_x6 hg24 (r_x8_0.ne o_x6 (by simp))
  replace o_cb10 := yB o_cb10 hg24 (r_x8_0.ne o_cb10 (by simp))
  replace o_x8 := yB o_x8 hg24 (r_x8_0.ne o_x8 (by simp))
  replace o_x9 := yB o_x9 hg24 (r_x8_0.ne o_x9 (by simp))
  replace p_am := in_p_am.below hb
  replace r_x8_0 := hr23
  have nr_r_x8_0 := nr2; clear nr2
  refine yZ b11 0 v21 [v_x8_0] [v21] 29 (by kernel_rfl) (by kernel_rfl) r_x8_0.one (by kernel_rfl) o_x8 (by simp) rfl ?_
  intro w26 hW27
  replace hb := hb.trans (hW27.below g_x8)
  replace hk := hk.ch (Ch.of_wrote hW27) hK (fun k e h => nv_x8 (e ▸ h))
  replace hK := Nat.le_trans hK (Nat.le_of_eq hW27.size.symm)
  replace hs := Nat.le_trans hs (Nat.le_of_eq hW27.size.symm)
  replace o_t := zG o_t hW27 (zO o_t o_x8 (by simp))
  replace o_nm := zG o_nm hW27 (zO o_nm o_x8 (by simp))
  replace o_x5 := zG o_x5 hW27 (zO o_x5 o_x8 (by simp))
  replace o_x6 := zG o_x6 hW27 ne_x6_x8
  replace o_cb10 := zG o_cb10 hW27 (zO o_cb10 o_x8 (by simp))
  replace o_x9 := zG o_x9 hW27 (zO o_x9 o_x8 (by simp))
  replace p_am := in_p_am.below hb
  replace r_x8_0 := r_x8_0.wrote hW27 (r_x8_0.ne o_x8 (by simp))
  replace o_x8 := hW27.here
  refine zE (zA (zF (zD (yC b1 0 (.int .i64 few) (by kernel_rfl) (by kernel_rfl) (zP o_x5 rfl) (yE .i64 few 0 (0 ≤ few) rfl (cmp_ge few 0) (by kernel_rfl) (by kernel_rfl) ?_ ?_)))))
  ·intro h28
   replace h28 : 0 ≤ few := by omega
   refine zJ (zZ (by kernel_rfl) (yC b11 0 v21 (by kernel_rfl) (by kernel_rfl) (zP o_x8 rfl) (zZ (by kernel_rfl) (L_len 29 34 ((acc ++ [(x.1, x.2.1, x.2.2)])).length v21 rfl Tryz.underlying29 (r_x8_0.rd).len (by kernel_rfl) (zZ (by kernel_rfl) (yC b1 0 (.int .i64 few) (by kernel_rfl) (by kernel_rfl) (zP o_x5 rfl) (zZ (by kernel_rfl) (yE .i64 ((((acc ++ [(x.1, x.2.1, x.2.2)])).length : Nat) : Int) few (few < ((((acc ++ [(x.1, x.2.1, x.2.2)])).length : Nat) : Int)) rfl (cmp_gt ((((acc ++ [(x.1, x.2.1, x.2.2)])).length : Nat) : Int) few) (by kernel_rfl) (by kernel_rfl) ?_ ?_))))))))
   ·intro h29
    replace h29 : few < ((((acc ++ [(x.1, x.2.1, x.2.2)])).length : Nat) : Int) := by omega
    refine yS (by kernel_rfl) (zE (zA (zV (by kernel_rfl) (zF (zD (yC b11 0 v21 (by kernel_rfl) (by kernel_rfl) (zP o_x8 rfl) (yZ b4 0 v21 [(.slice none 0 0)] [v21] 29 (by kernel_rfl) (by kernel_rfl) r_x8_0.one (by kernel_rfl) o_x6 (by simp) rfl ?_)))))))
    intro w30 hW31
    replace hb := hb.trans (hW31.below g_x6)
    replace hk := hk.ch (Ch.of_wrote hW31) hK (fun k e h => nv_x6 (e ▸ h))
    replace hK := Nat.le_trans hK (Nat.le_of_eq hW31.size.symm)
    replace hs := Nat.le_trans hs (Nat.le_of_eq hW31.size.symm)
    replace o_t := zG o_t hW31 (zO o_t o_x6 (by simp))
    replace o_nm := zG o_nm hW31 (zO o_nm o_x6 (by simp))
    replace o_x5 := zG o_x5 hW31 (zO o_x5 o_x6 (by simp))
    replace o_cb10 := zG o_cb10 hW31 (zO o_cb10 o_x6 (by simp))
    replace o_x8 := zG o_x8 hW31 ne_x8_x6
    replace o_x9 := zG o_x9 hW31 (zO o_x9 o_x6 (by simp))
    replace p_am := in_p_am.below hb
    replace r_x8_0 := r_x8_0.wrote hW31 (r_x8_0.ne o_x6 (by simp))
    replace o_x6 := hW31.here
    refine zE (zA (yA (zX ?_)))
    refine round_ret hk (⟨(acc ++ [(x.1, x.2.1, x.2.2)]), v21, rfl, o_t, o_nm, o_x5, o_x6, o_cb10, r_x8_0, nr_r_x8_0, hb, ?_, ?_, ?_⟩)
    ·rw [p1]
    ·have hx : (acc ++ [(x.1, x.2.1, x.2.2)]).length = pre.length + 1 := (by simp [p1]); simp only [List.length_append, List.length_cons, List.length_nil] at *; omega
    ·omega
   ·intro h32
    replace h32 : ((((acc ++ [(x.1, x.2.1, x.2.2)])).length : Nat) : Int) ≤ few := by omega
    refine yS (by kernel_rfl) (zE (zA (zQ (by kernel_rfl) (zY (zS ?_)))))
    refine round_normal hk ⟨o_cb10, o_t, o_nm, p_am⟩ ⟨(acc ++ [(x.1, x.2.1, x.2.2)]), v21, o_t, o_nm, o_x5, o_x6, o_cb10, o_x8, r_x8_0, nr_r_x8_0, hb, ?_, ?_⟩
    ·rw [p1]
    ·have hx : (acc ++ [(x.1, x.2.1, x.2.2)]).length = pre.length + 1 := (by simp [p1]); rw [List.length_append]; simp only [List.length_cons, List.length_nil]; omega
  ·intro h33
   replace h33 : few < 0 := by omega
   refine zJ (yF (by kernel_rfl) (yF (by kernel_rfl) (yF (by kernel_rfl) (yF (by kernel_rfl) (yR (by kernel_rfl) (zE (zA (zQ (by kernel_rfl) (zY (zS ?_))))))))))
   refine round_normal hk ⟨o_cb10, o_t, o_nm, p_am⟩ ⟨(acc ++ [(x.1, x.2.1, x.2.2)]), v21, o_t, o_nm, o_x5, o_x6, o_cb10, o_x8, r_x8_0, nr_r_x8_0, hb, ?_, ?_⟩
   ·rw [p1]
   ·have hx : (acc ++ [(x.1, x.2.1, x.2.2)]).length = pre.length + 1 := (by simp [p1]); rw [List.length_append]; simp only [List.length_cons, List.length_nil]; omega
 ·intro K A hi hsz o_D0
  obtain ⟨acc, v_x8_0, o_t, o_nm, o_x5, o_x6, o_cb10, o_x8, r_x8_0, nr_r_x8_0, hb, p1, p2⟩ := hi
  have p_am := in_p_am.below hb
  have ne_t_D0 : NE b_t (w12.heap.size) := Nat.ne_of_lt lt_t_0
  have ne_D0_t := NE.symm ne_t_D0
  have ne_nm_D0 : NE b_nm (w12.heap.size) := Nat.ne_of_lt lt_nm_0
  have ne_D0_nm := NE.symm ne_nm_D0
  have ne_x5_D0 : NE b1 (w12.heap.size) := Nat.ne_of_lt lt_x5_0
  have ne_D0_x5 := NE.symm ne_x5_D0
  have ne_x6_D0 : NE b4 (w12.heap.size) := Nat.ne_of_lt lt_x6_0
  have ne_D0_x6 := NE.symm ne_x6_D0
  have ne_cb10_D0 : NE cb10 (w12.heap.size) := Nat.ne_of_lt lt_cb10_0
  have ne_D0_cb10 := NE.symm ne_cb10_D0
  have ne_x8_D0 : NE b11 (w12.heap.size) := Nat.ne_of_lt lt_x8_0
  have ne_D0_x8 := NE.symm ne_x8_D0
  have hs : w.heap.size ≤ _ := hb.size
  refine zS (zA (zF (zD (yC b11 0 v_x8_0 (by kernel_rfl) (by kernel_rfl) (zP o_x8 rfl) (yZ b4 0 v_x8_0 [(.slice none 0 0)] [v_x8_0] 29 (by kernel_rfl) (by kernel_rfl) r_x8_0.one (by kernel_rfl) o_x6 (by simp) rfl ?_)))))
  intro w34 hW35
  replace hb := hb.trans (hW35.below g_x6)
  replace hs := Nat.le_trans hs (Nat.le_of_eq hW35.size.symm)
  replace o_t := zG o_t hW35 (zO o_t o_x6 (by simp))
  replace o_nm := zG o_nm hW35 (zO o_nm o_x6 (by simp))
  replace o_x5 := zG o_x5 hW35 (zO o_x5 o_x6 (by simp))
  replace o_cb10 := zG o_cb10 hW35 (zO o_cb10 o_x6 (by simp))
  replace o_x8 := zG o_x8 hW35 ne_x8_x6
  replace o_D0 := zG o_D0 hW35 (zO o_D0 o_x6 (by simp))
  replace p_am := in_p_am.below hb
  replace r_x8_0 := r_x8_0.wrote hW35 (r_x8_0.ne o_x6 (by simp))
  replace o_x6 := hW35.here
  refine zE (zA (yA (end_retM (ds := [⟨.collected w12.heap.size, #[]⟩]) (by kernel_rfl) (Lv_mark o_D0 ?_))))
  intro w36 hW37
  replace hb := hb.trans (hW37.below hs_0)
  replace hs := Nat.le_trans hs (Nat.le_of_eq hW37.size.symm)
  replace o_t := zG o_t hW37 (zO o_t o_D0 (by simp))
  replace o_nm := zG o_nm hW37 (zO o_nm o_D0 (by simp))
  replace o_x5 := zG o_x5 hW37 (zO o_x5 o_D0 (by simp))
  replace o_x6 := zG o_x6 hW37 (zO o_x6 o_D0 (by simp))
  replace o_cb10 := zG o_cb10 hW37 (zO o_cb10 o_D0 (by simp))
  replace o_x8 := zG o_x8 hW37 (zO o_x8 o_D0 (by simp))
  replace p_am := in_p_am.below hb
  replace r_x8_0 := r_x8_0.wrote hW37 (r_x8_0.ne o_D0 (by simp))
  replace o_D0 := hW37.here
  refine Lv_nil [.cell 6 29] [v_x8_0] rfl ⟨⟨⟨b4, 0, none⟩, by kernel_rfl, load_one (by kernel_rfl) (zP o_x6 rfl)⟩, trivial⟩ ?_
  have e51 : acc = (fewC am few) := by (rw [p1]; exact few_all (by omega))
  exact ⟨v_x8_0, rfl, r_x8_0.cast e51, hb⟩
 ·intro K c pre0 x0 A hpre hx hsz o_D0
  obtain ⟨pre, hpreq⟩ : ∃ pre, pre = pre0 ++ [x0] := ⟨_, rfl⟩
  rw [← hpreq] at hpre; try rw [← hpreq] at hx
  rcases hx with ⟨acc, v_x6_0, rfl, o_t, o_nm, o_x5, o_x6, o_cb10, r_x6_0, nr_r_x6_0, hb, q1, q2, q3⟩
  have p_am := in_p_am.below hb
  have ne_t_D0 : NE b_t (w12.heap.size) := Nat.ne_of_lt lt_t_0
  have ne_D0_t := NE.symm ne_t_D0
  have ne_nm_D0 : NE b_nm (w12.heap.size) := Nat.ne_of_lt lt_nm_0
  have ne_D0_nm := NE.symm ne_nm_D0
  have ne_x5_D0 : NE b1 (w12.heap.size) := Nat.ne_of_lt lt_x5_0
  have ne_D0_x5 := NE.symm ne_x5_D0
  have ne_x6_D0 : NE b4 (w12.heap.size) := Nat.ne_of_lt lt_x6_0
  have ne_D0_x6 := NE.symm ne_x6_D0
  have ne_cb10_D0 : NE cb10 (w12.heap.size) := Nat.ne_of_lt lt_cb10_0
  have ne_D0_cb10 := NE.symm ne_cb10_D0
  have hs : w.heap.size ≤ _ := hb.size
  refine yA (zX (zM (end_retM (ds := [⟨.collected w12.heap.size, #[]⟩]) (by kernel_rfl) (Lv_mark o_D0 ?_))))
  intro w38 hW39
  replace hb := hb.trans (hW39.below hs_0)
  replace hs := Nat.le_trans hs (Nat.le_of_eq hW39.size.symm)
  replace o_t := zG o_t hW39 (zO o_t o_D0 (by simp))
  replace o_nm := zG o_nm hW39 (zO o_nm o_D0 (by simp))
  replace o_x5 := zG o_x5 hW39 (zO o_x5 o_D0 (by simp))
  replace o_x6 := zG o_x6 hW39 (zO o_x6 o_D0 (by simp))
  replace o_cb10 := zG o_cb10 hW39 (zO o_cb10 o_D0 (by simp))
  replace p_am := in_p_am.below hb
  replace r_x6_0 := r_x6_0.wrote hW39 (r_x6_0.ne o_D0 (by simp))
  replace o_D0 := hW39.here
  refine Lv_nil [.cell 6 29] [v_x6_0] rfl ⟨⟨⟨b4, 0, none⟩, by kernel_rfl, load_one (by kernel_rfl) (zP o_x6 rfl)⟩, trivial⟩ ?_
  have e51 : acc = (fewC am few) := by (rw [q1]; exact few_stop hpre q3 q2)
  exact ⟨v_x6_0, rfl, r_x6_0.cast e51, hb⟩
theorem c_toldW (b_t : Nat) (b_nm : Nat) (b_ln : Nat) (v_mm : Value) (b_wh : Nat) (few : Int) (v_wh : Value) (wh : List (Int × Int × Int)) (w : World) (o_t : w.heap[b_t]? = some (.cells [(.pointer (some ⟨b_nm, 0, none⟩)), (.pointer (some ⟨b_ln, 0, none⟩)), v_mm, (.pointer (some ⟨b_wh, 0, none⟩))].toArray 66 (0, 0))) (o_wh : w.heap[b_wh]? = some (.cells [v_wh, (.bool true)].toArray 115 (0, 0))) (p_wh : Rd w encSpanC v_wh wh) (hl : wh.length ≤ 1114112) :
  Calls Tryz.prog 11 #[(.pointer (some ⟨b_t, 0, none⟩)), (.bool true), (.int .i64 few)] w (Ret fun v w' => ∃ (q0 : Value), v = q0 ∧ Row w' w.heap.size 34 3 encSpanC q0 (fewC wh few) ∧ Below w.heap.size w w') := by
 refine enterM (args := [(.pointer (some ⟨b_t, 0, none⟩)), (.bool true), (.int .i64 few)]) Tryz.func11 rfl (by kernel_rfl : _ = 39) (by kernel_rfl) ?_
 have hb := Below.refl w.heap.size w
 have hs : w.heap.size ≤ w.heap.size := Nat.le_refl _
 have in_p_wh := p_wh
 refine zF (zD (yX (fun b => .pointer (some ⟨b, 0, none⟩)) (.cells [(.int .i64 few)].toArray 3 (0, 0)) (by kernel_rfl) (by kernel_rfl) ?_))
 intro b1 w2 hN3
 have ne_t_x5 : NE b_t b1 := by have := (zK o_t); have := hN3.num; show _ ≠ _; omega
 have ne_x5_t := NE.symm ne_t_x5
 have ne_wh_x5 : NE b_wh b1 := by have := (zK o_wh); have := hN3.num; show _ ≠ _; omega
 have ne_x5_wh := NE.symm ne_wh_x5
 have g_x5 : w.heap.size ≤ b1 := by rw [hN3.num]; exact hs
 replace hb := hb.trans (hN3.below.mono hs)
 replace hs := Nat.le_trans hs (hN3.below.size)
 replace o_t := zB o_t hN3.below
 replace o_wh := zB o_wh hN3.below
 replace p_wh := p_wh.below hN3.below
 have o_x5 := hN3.here
 refine yX (fun b => .pointer (some ⟨b, 0, none⟩)) (.cells [(.slice none 0 0)].toArray 29 (0, 0)) (by kernel_rfl) (by kernel_rfl) ?_
 intro b4 w5 hN6
 have ne_t_x6 : NE b_t b4 := by have := (zK o_t); have := hN6.num; show _ ≠ _; omega
 have ne_x6_t := NE.symm ne_t_x6
 have ne_wh_x6 : NE b_wh b4 := by have := (zK o_wh); have := hN6.num; show _ ≠ _; omega
 have ne_x6_wh := NE.symm ne_wh_x6
 have ne_x5_x6 : NE b1 b4 := by have := (zK o_x5); have := hN6.num; show _ ≠ _; omega
 have ne_x6_x5 := NE.symm ne_x5_x6
 have g_x6 : w.heap.size ≤ b4 := by rw [hN6.num]; exact hs
 replace hb := hb.trans (hN6.below.mono hs)
 replace hs := Nat.le_trans hs (hN6.below.size)
 replace o_t := zB o_t hN6.below
 replace o_wh := zB o_wh hN6.below
 replace o_x5 := zB o_x5 hN6.below
 replace p_wh := p_wh.below hN6.below
 have o_x6 := hN6.here
 refine zE (zA (zF (zD (zJ (yD 36 [(.pointer (some ⟨b_t, 0, none⟩))] (by kernel_rfl) (by kernel_rfl) (c_tNamed b_t b_nm b_ln v_mm b_wh _ o_t) ?_)))))
 rintro _ w7 ⟨cb10, rfl, o_cb10, g_cb10, hB8⟩
 have ne_t_cb10 : NE b_t cb10 := by have := (zK o_t); show _ ≠ _; omega
 have ne_cb10_t := NE.symm ne_t_cb10
 have ne_wh_cb10 : NE b_wh cb10 := by have := (zK o_wh); show _ ≠ _; omega
 have ne_cb10_wh := NE.symm ne_wh_cb10
 have ne_x5_cb10 : NE b1 cb10 := by have := (zK o_x5); show _ ≠ _; omega
 have ne_cb10_x5 := NE.symm ne_x5_cb10
 have ne_x6_cb10 : NE b4 cb10 := by have := (zK o_x6); show _ ≠ _; omega
 have ne_cb10_x6 := NE.symm ne_x6_cb10
 replace g_cb10 := Nat.le_trans hs g_cb10
 replace hb := hb.trans (hB8.mono hs)
 replace hs := Nat.le_trans hs (hB8.size)
 replace o_t := zB o_t hB8
 replace o_wh := zB o_wh hB8
 replace o_x5 := zB o_x5 hB8
 replace o_x6 := zB o_x6 hB8
 replace p_wh := p_wh.below hB8
 refine zL (zE (zA (zF (zF (zD (zJ (zE (zA (zV (by kernel_rfl) (zD (zJ (yD 37 [(.pointer (some ⟨b_t, 0, none⟩))] (by kernel_rfl) (by kernel_rfl) (c_tWhole b_t b_nm b_ln v_mm b_wh _ o_t) ?_))))))))))))
 rintro _ w11 ⟨cb14, rfl, o_cb14, g_cb14, hB12⟩
 have ne_t_cb14 : NE b_t cb14 := by have := (zK o_t); show _ ≠ _; omega
 have ne_cb14_t := NE.symm ne_t_cb14
 have ne_wh_cb14 : NE b_wh cb14 := by have := (zK o_wh); show _ ≠ _; omega
 have ne_cb14_wh := NE.symm ne_wh_cb14
 have ne_x5_cb14 : NE b1 cb14 := by have := (zK o_x5); show _ ≠ _; omega
 have ne_cb14_x5 := NE.symm ne_x5_cb14
 have ne_x6_cb14 : NE b4 cb14 := by have := (zK o_x6); show _ ≠ _; omega
 have ne_cb14_x6 := NE.symm ne_x6_cb14
 have ne_cb10_cb14 : NE cb10 cb14 := by have := (zK o_cb10); show _ ≠ _; omega
 have ne_cb14_cb10 := NE.symm ne_cb10_cb14
 replace g_cb14 := Nat.le_trans hs g_cb14
 replace hb := hb.trans (hB12.mono hs)
 replace hs := Nat.le_trans hs (hB12.size)
 replace o_t := zB o_t hB12
 replace o_wh := zB o_wh hB12
 replace o_x5 := zB o_x5 hB12
 replace o_x6 := zB o_x6 hB12
 replace o_cb10 := zB o_cb10 hB12
 replace p_wh := p_wh.below hB12
 refine zL (zE (zA (zF (zD (yX (fun b => .pointer (some ⟨b, 0, none⟩)) (.cells [(.slice none 0 0)].toArray 29 (0, 0)) (by kernel_rfl) (by kernel_rfl) ?_)))))
 intro b15 w16 hN17
 have ne_t_x8 : NE b_t b15 := by have := (zK o_t); have := hN17.num; show _ ≠ _; omega
 have ne_x8_t := NE.symm ne_t_x8
 have ne_wh_x8 : NE b_wh b15 := by have := (zK o_wh); have := hN17.num; show _ ≠ _; omega
 have ne_x8_wh := NE.symm ne_wh_x8
 have ne_x5_x8 : NE b1 b15 := by have := (zK o_x5); have := hN17.num; show _ ≠ _; omega
 have ne_x8_x5 := NE.symm ne_x5_x8
 have ne_x6_x8 : NE b4 b15 := by have := (zK o_x6); have := hN17.num; show _ ≠ _; omega
 have ne_x8_x6 := NE.symm ne_x6_x8
 have ne_cb10_x8 : NE cb10 b15 := by have := (zK o_cb10); have := hN17.num; show _ ≠ _; omega
 have ne_x8_cb10 := NE.symm ne_cb10_x8
 have ne_cb14_x8 : NE cb14 b15 := by have := (zK o_cb14); have := hN17.num; show _ ≠ _; omega
 have ne_x8_cb14 := NE.symm ne_cb14_x8
 have g_x8 : w.heap.size ≤ b15 := by rw [hN17.num]; exact hs
 replace hb := hb.trans (hN17.below.mono hs)
 replace hs := Nat.le_trans hs (hN17.below.size)
 replace o_t := zB o_t hN17.below
 replace o_wh := zB o_wh hN17.below
 replace o_x5 := zB o_x5 hN17.below
 replace o_x6 := zB o_x6 hN17.below
 replace o_cb10 := zB o_cb10 hN17.below
 replace o_cb14 := zB o_cb14 hN17.below
 replace p_wh := p_wh.below hN17.below
 have o_x8 := hN17.here
 refine zE (zA (zF (zF (zD (zJ (zT (.bool false) (by kernel_rfl) (by kernel_rfl) (zE (zA (zQ (by kernel_rfl) (zY (zA (zF (zF (zD (zJ (zE (zA (yU ?_))))))))))))))))))
 have lt_t_0 : b_t < w16.heap.size := zK o_t
 have lt_wh_0 : b_wh < w16.heap.size := zK o_wh
 have lt_x5_0 : b1 < w16.heap.size := zK o_x5
 have lt_x6_0 : b4 < w16.heap.size := zK o_x6
 have lt_cb10_0 : cb10 < w16.heap.size := zK o_cb10
 have lt_cb14_0 : cb14 < w16.heap.size := zK o_cb14
 have lt_x8_0 : b15 < w16.heap.size := zK o_x8
 have hs_0 := hs
 have hb_0 := hb
 refine W_range 71 [(.pointer (some ⟨cb14, 0, none⟩))] wh (by kernel_rfl) (fun _ _ => rfl) (it_Whole cb14 b_t b_nm b_ln v_mm b_wh v_wh wh (by omega)) ⟨o_cb14, o_t, o_wh, p_wh⟩ ((fun D A B h hc hd => ⟨yI h.1 hc (fun h => Nat.not_lt.2 (hd _ h) lt_cb14_0), yI h.2.1 hc (fun h => Nat.not_lt.2 (hd _ h) lt_t_0), yI h.2.2.1 hc (fun h => Nat.not_lt.2 (hd _ h) lt_wh_0), Rd.ch p_wh (Nat.le_refl _) h.2.2.2 hc hd⟩)) (by intro x; rfl) (fun K pre A => ∃ (acc : List SpI) (v_x8_0 : Value), (A.heap[b_t]? = some (.cells [(.pointer (some ⟨b_nm, 0, none⟩)), (.pointer (some ⟨b_ln, 0, none⟩)), v_mm, (.pointer (some ⟨b_wh, 0, none⟩))].toArray 66 (0, 0))) ∧ (A.heap[b_wh]? = some (.cells [v_wh, (.bool true)].toArray 115 (0, 0))) ∧ (A.heap[b1]? = some (.cells [(.int .i64 few)].toArray 3 (0, 0))) ∧ (A.heap[b4]? = some (.cells [(.slice none 0 0)].toArray 29 (0, 0))) ∧ (A.heap[cb10]? = some (.cells [(.pointer (some ⟨b_t, 0, none⟩))].toArray 23 (0, 0))) ∧ (A.heap[cb14]? = some (.cells [(.pointer (some ⟨b_t, 0, none⟩))].toArray 23 (0, 0))) ∧ (A.heap[b15]? = some (.cells [v_x8_0].toArray 29 (0, 0))) ∧ (Row A w.heap.size 34 3 encSpanC v_x8_0 acc) ∧ (∀ g, Value.ownBlock v_x8_0 = some g → ¬ Iv w16.heap.size K g) ∧ (Below w.heap.size w A) ∧ (acc = pre) ∧ (few < 0 ∨ (pre.length : Int) ≤ few)) (fun K c pre A => (∃ (acc : List SpI) (v_x6_0 : Value), (c = .ret) ∧ (A.heap[b_t]? = some (.cells [(.pointer (some ⟨b_nm, 0, none⟩)), (.pointer (some ⟨b_ln, 0, none⟩)), v_mm, (.pointer (some ⟨b_wh, 0, none⟩))].toArray 66 (0, 0))) ∧ (A.heap[b_wh]? = some (.cells [v_wh, (.bool true)].toArray 115 (0, 0))) ∧ (A.heap[b1]? = some (.cells [(.int .i64 few)].toArray 3 (0, 0))) ∧ (A.heap[b4]? = some (.cells [v_x6_0].toArray 29 (0, 0))) ∧ (A.heap[cb10]? = some (.cells [(.pointer (some ⟨b_t, 0, none⟩))].toArray 23 (0, 0))) ∧ (A.heap[cb14]? = some (.cells [(.pointer (some ⟨b_t, 0, none⟩))].toArray 23 (0, 0))) ∧ (Row A w.heap.size 34 3 encSpanC v_x6_0 acc) ∧ (∀ g, Value.ownBlock v_x6_0 = some g → ¬ Iv w16.heap.size K g) ∧ (Below w.heap.size w A) ∧ (acc = pre) ∧ ((pre.length : Int) = few + 1) ∧ (0 ≤ few))) ?_ ?_ ?_ ?_ ?_ ?_
 ·intro A hA
  exact ⟨[], (.slice none 0 0), zB o_t hA, zB o_wh hA, zB o_x5 hA, zB o_x6 hA, zB o_cb10 hA, zB o_cb14 hA, zB o_x8 hA, Row.nil _ _ _ _ _, nr_nil _ _, hb.trans (hA.mono hs), by rfl, by (simp only [List.length_nil]; omega)⟩
 ·rintro K pre A B ⟨acc, v_x8_0, o_t, o_wh, o_x5, o_x6, o_cb10, o_cb14, o_x8, r_x8_0, nr_r_x8_0, hb, p1, p2⟩ hc
  exact ⟨acc, v_x8_0, yI o_t hc (fun h => Nat.not_lt.2 h.1 lt_t_0), yI o_wh hc (fun h => Nat.not_lt.2 h.1 lt_wh_0), yI o_x5 hc (fun h => Nat.not_lt.2 h.1 lt_x5_0), yI o_x6 hc (fun h => Nat.not_lt.2 h.1 lt_x6_0), yI o_cb10 hc (fun h => Nat.not_lt.2 h.1 lt_cb10_0), yI o_cb14 hc (fun h => Nat.not_lt.2 h.1 lt_cb14_0), yI o_x8 hc (fun h => Nat.not_lt.2 h.1 lt_x8_0), r_x8_0.ch hc nr_r_x8_0, nr_r_x8_0, hc.below hb hb.size (fun k h => Nat.le_trans hs_0 h.1), p1, p2⟩
 ·rintro K c pre A B (⟨acc, v_x6_0, hcc, o_t, o_wh, o_x5, o_x6, o_cb10, o_cb14, r_x6_0, nr_r_x6_0, hb, q1, q2, q3⟩) hc
  exact ⟨acc, v_x6_0, hcc, yI o_t hc (fun h => Nat.not_lt.2 h.1 lt_t_0), yI o_wh hc (fun h => Nat.not_lt.2 h.1 lt_wh_0), yI o_x5 hc (fun h => Nat.not_lt.2 h.1 lt_x5_0), yI o_x6 hc (fun h => Nat.not_lt.2 h.1 lt_x6_0), yI o_cb10 hc (fun h => Nat.not_lt.2 h.1 lt_cb10_0), yI o_cb14 hc (fun h => Nat.not_lt.2 h.1 lt_cb14_0), r_x6_0.ch hc nr_r_x6_0, nr_r_x6_0, hc.below hb hb.size (fun k h => Nat.le_trans hs_0 h.1), q1, q2, q3⟩
 ·intro l K pre x A hi hN hK0 hK hpre
  obtain ⟨acc, v_x8_0, o_t, o_wh, o_x5, o_x6, o_cb10, o_cb14, o_x8, r_x8_0, nr_r_x8_0, hb, p1, p2⟩ := hi
  have hs := hb.size
  have hk := Kp.refl (w16.heap.size) K A
  have nv_t : ¬ Iv (w16.heap.size) K b_t := fun h => Nat.not_lt.2 h.1 lt_t_0
  have nv_wh : ¬ Iv (w16.heap.size) K b_wh := fun h => Nat.not_lt.2 h.1 lt_wh_0
  have nv_x5 : ¬ Iv (w16.heap.size) K b1 := fun h => Nat.not_lt.2 h.1 lt_x5_0
  have nv_x6 : ¬ Iv (w16.heap.size) K b4 := fun h => Nat.not_lt.2 h.1 lt_x6_0
  have nv_cb10 : ¬ Iv (w16.heap.size) K cb10 := fun h => Nat.not_lt.2 h.1 lt_cb10_0
  have nv_cb14 : ¬ Iv (w16.heap.size) K cb14 := fun h => Nat.not_lt.2 h.1 lt_cb14_0
  have nv_x8 : ¬ Iv (w16.heap.size) K b15 := fun h => Nat.not_lt.2 h.1 lt_x8_0
  have p_wh := in_p_wh.below hb
  replace o_cb14 := hN.1
  replace o_t := hN.2.1
  replace o_wh := hN.2.2.1
  have hlt := tk_lt hpre
  have hal : acc.length = pre.length := by rw [p1]
  refine zF (zD (yX (fun b => .pointer (some ⟨b, 0, none⟩)) (.cells [(.int .i32 0), (.int .i32 0)].toArray 32 (0, 0)) (by kernel_rfl) (by kernel_rfl) ?_))
  intro b18 w19 hN20
  have ne_t_x9 : NE b_t b18 := by have := (zK o_t); have := hN20.num; show _ ≠ _; omega
  have ne_x9_t := NE.symm ne_t_x9
  have ne_wh_x9 : NE b_wh b18 := by have := (zK o_wh); have := hN20.num; show _ ≠ _; omega
  have ne_x9_wh := NE.symm ne_wh_x9
  have ne_x5_x9 : NE b1 b18 := by have := (zK o_x5); have := hN20.num; show _ ≠ _; omega
  have ne_x9_x5 := NE.symm ne_x5_x9
  have ne_x6_x9 : NE b4 b18 := by have := (zK o_x6); have := hN20.num; show _ ≠ _; omega
  have ne_x9_x6 := NE.symm ne_x6_x9
  have ne_cb10_x9 : NE cb10 b18 := by have := (zK o_cb10); have := hN20.num; show _ ≠ _; omega
  have ne_x9_cb10 := NE.symm ne_cb10_x9
  have ne_cb14_x9 : NE cb14 b18 := by have := (zK o_cb14); have := hN20.num; show _ ≠ _; omega
  have ne_x9_cb14 := NE.symm ne_cb14_x9
  have ne_x8_x9 : NE b15 b18 := by have := (zK o_x8); have := hN20.num; show _ ≠ _; omega
  have ne_x9_x8 := NE.symm ne_x8_x9
  have g_x9 : w.heap.size ≤ b18 := by rw [hN20.num]; exact hs
  have nv_x9 : ¬ Iv w16.heap.size K b18 := fun h => by have := h.2; have := hN20.num; omega
  replace hb := hb.trans (hN20.below.mono hs)
  replace hk := hk.ch (Ch.of_below hN20.below) hK (fun _ h => h.elim)
  replace hK := Nat.le_trans hK (hN20.below.size)
  replace hs := Nat.le_trans hs (hN20.below.size)
  replace o_t := zB o_t hN20.below
  replace o_wh := zB o_wh hN20.below
  replace o_x5 := zB o_x5 hN20.below
  replace o_x6 := zB o_x6 hN20.below
  replace o_cb10 := zB o_cb10 hN20.below
  replace o_cb14 := zB o_cb14 hN20.below
  replace o_x8 := zB o_x8 hN20.below
  replace p_wh := p_wh.below hN20.below
  replace r_x8_0 := r_x8_0.below hN20.below
  have o_x9 := hN20.here
  refine yT b18 0 [(.int .i32 x.1), (.int .i32 x.2.1)] [(.int .i32 0), (.int .i32 0)] [(.int .i32 x.1), (.int .i32 x.2.1)] 32 (by kernel_rfl) (by kernel_rfl) rfl (by kernel_rfl) o_x9 (by kernel_rfl) rfl ?_
  intro w21 hW22
  replace hb := hb.trans (hW22.below g_x9)
  replace hk := hk.ch (Ch.of_wrote hW22) hK (fun k e h => nv_x9 (e ▸ h))
  replace hK := Nat.le_trans hK (Nat.le_of_eq hW22.size.symm)
  replace hs := Nat.le_trans hs (Nat.le_of_eq hW22.size.symm)
  replace o_t := zG o_t hW22 (zO o_t o_x9 (by simp))
  replace o_wh := zG o_wh hW22 (zO o_wh o_x9 (by simp))
  replace o_x5 := zG o_x5 hW22 (zO o_x5 o_x9 (by simp))
  replace o_x6 := zG o_x6 hW22 (zO o_x6 o_x9 (by simp))
  replace o_cb10 := zG o_cb10 hW22 (zO o_cb10 o_x9 (by simp))
  replace o_cb14 := zG o_cb14 hW22 (zO o_cb14 o_x9 (by simp))
  replace o_x8 := zG o_x8 hW22 (zO o_x8 o_x9 (by simp))
  replace p_wh := in_p_wh.below hb
  replace r_x8_0 := r_x8_0.wrote hW22 (r_x8_0.ne o_x9 (by simp))
  replace o_x9 := hW22.here
  refine zE (zA (zD (zL (zE ?_))))
  refine zA ⟨hk, ?_⟩
  intro w23 hc24
  replace o_t := yI o_t hc24 nv_t
  replace o_wh := yI o_wh hc24 nv_wh
  replace o_x5 := yI o_x5 hc24 nv_x5
  replace o_x6 := yI o_x6 hc24 nv_x6
  replace o_cb10 := yI o_cb10 hc24 nv_cb10
  replace o_cb14 := yI o_cb14 hc24 nv_cb14
  replace o_x8 := yI o_x8 hc24 nv_x8
  replace o_x9 := yI o_x9 hc24 nv_x9
  replace r_x8_0 := r_x8_0.ch hc24 nr_r_x8_0
  replace hb := hc24.below hb hs (fun k h => Nat.le_trans hs_0 h.1)
  replace p_wh := in_p_wh.below hb
  replace hs := hb.size
  replace hK := Nat.le_trans hK hc24.size
  replace hk := Kp.refl (w16.heap.size) K w23
  refine yU (zF (zD (yC b15 0 v_x8_0 (by kernel_rfl) (by kernel_rfl) (zP o_x8 rfl) (xA b18 0 [(.int .i32 x.1), (.int .i32 x.2.1)] (by kernel_rfl) (by kernel_rfl) (by kernel_rfl) (yP o_x9 0 (by kernel_rfl)) (zJ (zT (Value.agg #[(.int .i32 x.1), (.int .i32 x.2.1), (.int .u8 x.2.2)]) (by kernel_rfl) (by kernel_rfl) (L_app el29 w.heap.size v_x8_0 acc (x.1, x.2.1, x.2.2) hs r_x8_0 (by omega) (by kernel_rfl) rfl rfl (by kernel_rfl) rfl (by kernel_rfl) (by kernel_rfl) ?_)))))))
  intro v25 w26 hr27 hg28 how29
  have nr2 := nr_app how29 nr_r_x8_0 hK
  replace hb := hb.grown hg28 hs (fun k hk => (World.ownsRow.lt r_x8_0 k hk).1)
  replace hk := hk.ch (Ch.of_grown hg28) hK (fun k e => nr_r_x8_0 k e)
  replace hK := Nat.le_trans hK (hg28.size)
  replace hs := Nat.le_trans hs (hg28.size)
  replace o_t := yB o_t hg28 (r_x8_0.ne o_t (by simp))
  replace o_wh := yB o_wh hg28 (r_x8_0.ne o_wh (by simp))
  replace o_x5 := yB o_x5 hg28 (r_x8_0.ne o_x5 (by simp))
  replace o_x6 := yB o_x6 hg28 (r_x8_0.ne o_x6 (by simp))
  replace o_cb10 := yB o_cb10 hg28 (r_x8_0.ne o_cb10 (by simp))
  replace o_cb14 := yB o_cb14 hg28 (r_x8_0.ne o_cb14 (by simp))
  replace o_x8 := yB o_x8 hg28 (r_x8_0.ne o_x8 (by simp))
  replace o_x9 := yB o_x9 hg28 (r_x8_0.ne o_x9 (by simp))
  replace p_wh := in_p_wh.below hb
  replace r_x8_0 := hr27
  have nr_r_x8_0 := nr2; clear nr2
  refine yZ b15 0 v25 [v_x8_0] [v25] 29 (by kernel_rfl) (by kernel_rfl) r_x8_0.one (by kernel_rfl) o_x8 (by simp) rfl ?_
  intro w30 hW31
  replace hb := hb.trans (hW31.below g_x8)
  replace hk := hk.ch (Ch.of_wrote hW31) hK (fun k e h => nv_x8 (e ▸ h))
  replace hK := Nat.le_trans hK (Nat.le_of_eq hW31.size.symm)
  replace hs := Nat.le_trans hs (Nat.le_of_eq hW31.size.symm)
  replace o_t := zG o_t hW31 (zO o_t o_x8 (by simp))
  replace o_wh := zG o_wh hW31 (zO o_wh o_x8 (by simp))
  replace o_x5 := zG o_x5 hW31 (zO o_x5 o_x8 (by simp))
  replace o_x6 := zG o_x6 hW31 ne_x6_x8
  replace o_cb10 := zG o_cb10 hW31 (zO o_cb10 o_x8 (by simp))
  replace o_cb14 := zG o_cb14 hW31 (zO o_cb14 o_x8 (by simp))
  replace o_x9 := zG o_x9 hW31 (zO o_x9 o_x8 (by simp))
  replace p_wh := in_p_wh.below hb
  replace r_x8_0 := r_x8_0.wrote hW31 (r_x8_0.ne o_x8 (by simp))
  replace o_x8 := hW31.here
  refine zE (zA (zF (zD (yC b1 0 (.int .i64 few) (by kernel_rfl) (by kernel_rfl) (zP o_x5 rfl) (yE .i64 few 0 (0 ≤ few) rfl (cmp_ge few 0) (by kernel_rfl) (by kernel_rfl) ?_ ?_)))))
  ·intro h32
   replace h32 : 0 ≤ few := by omega
   refine zJ (zZ (by kernel_rfl) (yC b15 0 v25 (by kernel_rfl) (by kernel_rfl) (zP o_x8 rfl) (zZ (by kernel_rfl) (L_len 29 34 ((acc ++ [(x.1, x.2.1, x.2.2)])).length v25 rfl Tryz.underlying29 (r_x8_0.rd).len (by kernel_rfl) (zZ (by kernel_rfl) (yC b1 0 (.int .i64 few) (by kernel_rfl) (by kernel_rfl) (zP o_x5 rfl) (zZ (by kernel_rfl) (yE .i64 ((((acc ++ [(x.1, x.2.1, x.2.2)])).length : Nat) : Int) few (few < ((((acc ++ [(x.1, x.2.1, x.2.2)])).length : Nat) : Int)) rfl (cmp_gt ((((acc ++ [(x.1, x.2.1, x.2.2)])).length : Nat) : Int) few) (by kernel_rfl) (by kernel_rfl) ?_ ?_))))))))
   ·intro h33
    replace h33 : few < ((((acc ++ [(x.1, x.2.1, x.2.2)])).length : Nat) : Int) := by omega
    refine yS (by kernel_rfl) (zE (zA (zV (by kernel_rfl) (zF (zD (yC b15 0 v25 (by kernel_rfl) (by kernel_rfl) (zP o_x8 rfl) (yZ b4 0 v25 [(.slice none 0 0)] [v25] 29 (by kernel_rfl) (by kernel_rfl) r_x8_0.one (by kernel_rfl) o_x6 (by simp) rfl ?_)))))))
    intro w34 hW35
    replace hb := hb.trans (hW35.below g_x6)
    replace hk := hk.ch (Ch.of_wrote hW35) hK (fun k e h => nv_x6 (e ▸ h))
    replace hK := Nat.le_trans hK (Nat.le_of_eq hW35.size.symm)
    replace hs := Nat.le_trans hs (Nat.le_of_eq hW35.size.symm)
    replace o_t := zG o_t hW35 (zO o_t o_x6 (by simp))
    replace o_wh := zG o_wh hW35 (zO o_wh o_x6 (by simp))
    replace o_x5 := zG o_x5 hW35 (zO o_x5 o_x6 (by simp))
    replace o_cb10 := zG o_cb10 hW35 (zO o_cb10 o_x6 (by simp))
    replace o_cb14 := zG o_cb14 hW35 (zO o_cb14 o_x6 (by simp))
    replace o_x8 := zG o_x8 hW35 ne_x8_x6
    replace o_x9 := zG o_x9 hW35 (zO o_x9 o_x6 (by simp))
    replace p_wh := in_p_wh.below hb
    replace r_x8_0 := r_x8_0.wrote hW35 (r_x8_0.ne o_x6 (by simp))
    replace o_x6 := hW35.here
    refine zE (zA (yA (zX ?_)))
    refine round_ret hk (⟨(acc ++ [(x.1, x.2.1, x.2.2)]), v25, rfl, o_t, o_wh, o_x5, o_x6, o_cb10, o_cb14, r_x8_0, nr_r_x8_0, hb, ?_, ?_, ?_⟩)
    ·rw [p1]
    ·have hx : (acc ++ [(x.1, x.2.1, x.2.2)]).length = pre.length + 1 := (by simp [p1]); simp only [List.length_append, List.length_cons, List.length_nil] at *; omega
    ·omega
   ·intro h36
    replace h36 : ((((acc ++ [(x.1, x.2.1, x.2.2)])).length : Nat) : Int) ≤ few := by omega
    refine yS (by kernel_rfl) (zE (zA (zQ (by kernel_rfl) (zY (zS ?_)))))
    refine round_normal hk ⟨o_cb14, o_t, o_wh, p_wh⟩ ⟨(acc ++ [(x.1, x.2.1, x.2.2)]), v25, o_t, o_wh, o_x5, o_x6, o_cb10, o_cb14, o_x8, r_x8_0, nr_r_x8_0, hb, ?_, ?_⟩
    ·rw [p1]
    ·have hx : (acc ++ [(x.1, x.2.1, x.2.2)]).length = pre.length + 1 := (by simp [p1]); rw [List.length_append]; simp only [List.length_cons, List.length_nil]; omega
  ·intro h37
   replace h37 : few < 0 := by omega
   refine zJ (yF (by kernel_rfl) (yF (by kernel_rfl) (yF (by kernel_rfl) (yF (by kernel_rfl) (yR (by kernel_rfl) (zE (zA (zQ (by kernel_rfl) (zY (zS ?_))))))))))
   refine round_normal hk ⟨o_cb14, o_t, o_wh, p_wh⟩ ⟨(acc ++ [(x.1, x.2.1, x.2.2)]), v25, o_t, o_wh, o_x5, o_x6, o_cb10, o_cb14, o_x8, r_x8_0, nr_r_x8_0, hb, ?_, ?_⟩
   ·rw [p1]
   ·have hx : (acc ++ [(x.1, x.2.1, x.2.2)]).length = pre.length + 1 := (by simp [p1]); rw [List.length_append]; simp only [List.length_cons, List.length_nil]; omega
 ·intro K A hi hsz o_D0
  obtain ⟨acc, v_x8_0, o_t, o_wh, o_x5, o_x6, o_cb10, o_cb14, o_x8, r_x8_0, nr_r_x8_0, hb, p1, p2⟩ := hi
  have p_wh := in_p_wh.below hb
  have ne_t_D0 : NE b_t (w16.heap.size) := Nat.ne_of_lt lt_t_0
  have ne_D0_t := NE.symm ne_t_D0
  have ne_wh_D0 : NE b_wh (w16.heap.size) := Nat.ne_of_lt lt_wh_0
  have ne_D0_wh := NE.symm ne_wh_D0
  have ne_x5_D0 : NE b1 (w16.heap.size) := Nat.ne_of_lt lt_x5_0
  have ne_D0_x5 := NE.symm ne_x5_D0
  have ne_x6_D0 : NE b4 (w16.heap.size) := Nat.ne_of_lt lt_x6_0
  have ne_D0_x6 := NE.symm ne_x6_D0
  have ne_cb10_D0 : NE cb10 (w16.heap.size) := Nat.ne_of_lt lt_cb10_0
  have ne_D0_cb10 := NE.symm ne_cb10_D0
  have ne_cb14_D0 : NE cb14 (w16.heap.size) := Nat.ne_of_lt lt_cb14_0
  have ne_D0_cb14 := NE.symm ne_cb14_D0
  have ne_x8_D0 : NE b15 (w16.heap.size) := Nat.ne_of_lt lt_x8_0
  have ne_D0_x8 := NE.symm ne_x8_D0
  have hs : w.heap.size ≤ _ := hb.size
  refine zS (zA (zF (zD (yC b15 0 v_x8_0 (by kernel_rfl) (by kernel_rfl) (zP o_x8 rfl) (yZ b4 0 v_x8_0 [(.slice none 0 0)] [v_x8_0] 29 (by kernel_rfl) (by kernel_rfl) r_x8_0.one (by kernel_rfl) o_x6 (by simp) rfl ?_)))))
  intro w38 hW39
  replace hb := hb.trans (hW39.below g_x6)
  replace hs := Nat.le_trans hs (Nat.le_of_eq hW39.size.symm)
  replace o_t := zG o_t hW39 (zO o_t o_x6 (by simp))
  replace o_wh := zG o_wh hW39 (zO o_wh o_x6 (by simp))
  replace o_x5 := zG o_x5 hW39 (zO o_x5 o_x6 (by simp))
  replace o_cb10 := zG o_cb10 hW39 (zO o_cb10 o_x6 (by simp))
  replace o_cb14 := zG o_cb14 hW39 (zO o_cb14 o_x6 (by simp))
  replace o_x8 := zG o_x8 hW39 ne_x8_x6
  replace o_D0 := zG o_D0 hW39 (zO o_D0 o_x6 (by simp))
  replace p_wh := in_p_wh.below hb
  replace r_x8_0 := r_x8_0.wrote hW39 (r_x8_0.ne o_x6 (by simp))
  replace o_x6 := hW39.here
  refine zE (zA (yA (end_retM (ds := [⟨.collected w16.heap.size, #[]⟩]) (by kernel_rfl) (Lv_mark o_D0 ?_))))
  intro w40 hW41
  replace hb := hb.trans (hW41.below hs_0)
  replace hs := Nat.le_trans hs (Nat.le_of_eq hW41.size.symm)
  replace o_t := zG o_t hW41 (zO o_t o_D0 (by simp))
  replace o_wh := zG o_wh hW41 (zO o_wh o_D0 (by simp))
  replace o_x5 := zG o_x5 hW41 (zO o_x5 o_D0 (by simp))
  replace o_x6 := zG o_x6 hW41 (zO o_x6 o_D0 (by simp))
  replace o_cb10 := zG o_cb10 hW41 (zO o_cb10 o_D0 (by simp))
  replace o_cb14 := zG o_cb14 hW41 (zO o_cb14 o_D0 (by simp))
  replace o_x8 := zG o_x8 hW41 (zO o_x8 o_D0 (by simp))
  replace p_wh := in_p_wh.below hb
  replace r_x8_0 := r_x8_0.wrote hW41 (r_x8_0.ne o_D0 (by simp))
  replace o_D0 := hW41.here
  refine Lv_nil [.cell 6 29] [v_x8_0] rfl ⟨⟨⟨b4, 0, none⟩, by kernel_rfl, load_one (by kernel_rfl) (zP o_x6 rfl)⟩, trivial⟩ ?_
  have e51 : acc = (fewC wh few) := by (rw [p1]; exact few_all (by omega))
  exact ⟨v_x8_0, rfl, r_x8_0.cast e51, hb⟩
 ·intro K c pre0 x0 A hpre hx hsz o_D0
  obtain ⟨pre, hpreq⟩ : ∃ pre, pre = pre0 ++ [x0] := ⟨_, rfl⟩
  rw [← hpreq] at hpre; try rw [← hpreq] at hx
  rcases hx with ⟨acc, v_x6_0, rfl, o_t, o_wh, o_x5, o_x6, o_cb10, o_cb14, r_x6_0, nr_r_x6_0, hb, q1, q2, q3⟩
  have p_wh := in_p_wh.below hb
  have ne_t_D0 : NE b_t (w16.heap.size) := Nat.ne_of_lt lt_t_0
  have ne_D0_t := NE.symm ne_t_D0
  have ne_wh_D0 : NE b_wh (w16.heap.size) := Nat.ne_of_lt lt_wh_0
  have ne_D0_wh := NE.symm ne_wh_D0
  have ne_x5_D0 : NE b1 (w16.heap.size) := Nat.ne_of_lt lt_x5_0
  have ne_D0_x5 := NE.symm ne_x5_D0
  have ne_x6_D0 : NE b4 (w16.heap.size) := Nat.ne_of_lt lt_x6_0
  have ne_D0_x6 := NE.symm ne_x6_D0
  have ne_cb10_D0 : NE cb10 (w16.heap.size) := Nat.ne_of_lt lt_cb10_0
  have ne_D0_cb10 := NE.symm ne_cb10_D0
  have ne_cb14_D0 : NE cb14 (w16.heap.size) := Nat.ne_of_lt lt_cb14_0
  have ne_D0_cb14 := NE.symm ne_cb14_D0
  have hs : w.heap.size ≤ _ := hb.size
  refine yA (zX (zM (end_retM (ds := [⟨.collected w16.heap.size, #[]⟩]) (by kernel_rfl) (Lv_mark o_D0 ?_))))
  intro w42 hW43
  replace hb := hb.trans (hW43.below hs_0)
  replace hs := Nat.le_trans hs (Nat.le_of_eq hW43.size.symm)
  replace o_t := zG o_t hW43 (zO o_t o_D0 (by simp))
  replace o_wh := zG o_wh hW43 (zO o_wh o_D0 (by simp))
  replace o_x5 := zG o_x5 hW43 (zO o_x5 o_D0 (by simp))
  replace o_x6 := zG o_x6 hW43 (zO o_x6 o_D0 (by simp))
  replace o_cb10 := zG o_cb10 hW43 (zO o_cb10 o_D0 (by simp))
  replace o_cb14 := zG o_cb14 hW43 (zO o_cb14 o_D0 (by simp))
  replace p_wh := in_p_wh.below hb
  replace r_x6_0 := r_x6_0.wrote hW43 (r_x6_0.ne o_D0 (by simp))
  replace o_D0 := hW43.here
  refine Lv_nil [.cell 6 29] [v_x6_0] rfl ⟨⟨⟨b4, 0, none⟩, by kernel_rfl, load_one (by kernel_rfl) (zP o_x6 rfl)⟩, trivial⟩ ?_
  have e51 : acc = (fewC wh few) := by (rw [q1]; exact few_stop hpre q3 q2)
  exact ⟨v_x6_0, rfl, r_x6_0.cast e51, hb⟩
end Go.Proofs.YtkclikfejmeblaaGreatDoor
end

/- === Wclaw === -/
section
/- Walks, written by my program walk.py out of the specification claw.py: each theorem says what one function returns and that it leaves memory as it was. -/
namespace Go.Proofs.YtkclikfejmeblaaGreatDoor
open Go Go.RowKit Go.FK
set_option maxHeartbeats 4000000
set_option maxRecDepth 100000
set_option linter.unusedVariables false
set_option linter.unusedSimpArgs false
set_option maxRecDepth 100000
theorem lives_tab : clsF ([35, 32, 64, 109, 105, 115, 115, 105, 110, 103, 58, 32, 48, 48, 48, 48, 46, 46, 49, 48, 70, 70, 70, 70, 59, 32, 76, 101, 102, 116, 95, 84, 111, 95, 82, 105, 103, 104, 116, 10, 35, 32, 64, 109, 105, 115, 115, 105, 110, 103, 58, 32, 48, 53, 57, 48, 46, 46, 48, 53, 70, 70, 59, 32, 82, 10, 10, 48, 48, 51, 48, 46, 46, 48, 48, 51, 57, 32, 59, 32, 69, 78, 32, 35, 32, 100, 105, 103, 105, 116, 115, 10, 48, 53, 68, 48, 32, 59, 32, 82, 105, 103, 104, 116, 32, 84, 111, 32, 76, 101, 102, 116, 10] : List UInt8) = (((([(48, 57, 4), (1488, 1488, 2)] : List SpI), ([(48, 57, 4), (1488, 1488, 5)] : List SpI), ([(0, 1114111, 1), (1424, 1535, 2)] : List SpI)) : TabC), 0, 0) := by kernel_rfl
theorem c_lives7 (w : World) {m_ml : Int} (hml : w.cell? ⟨1, 0, none⟩ = some (.int .i64 m_ml)) :
  Calls Tryz.prog 9 #[] w (Ret fun v w' => v = (.bool true) ∧ Below w.heap.size w w') := by
 refine enter (args := []) Tryz.func9 rfl (by kernel_rfl : _ = 45) (by kernel_rfl) ?_
 have hb := Below.refl w.heap.size w
 have hs : w.heap.size ≤ w.heap.size := Nat.le_refl _
 refine zF (zD (zL (zE (zA (zF (zD (yD 10 [(S ([102] : List UInt8)), (S ([35, 32, 64, 109, 105, 115, 115, 105, 110, 103, 58, 32, 48, 48, 48, 48, 46, 46, 49, 48, 70, 70, 70, 70, 59, 32, 76, 101, 102, 116, 95, 84, 111, 95, 82, 105, 103, 104, 116, 10, 35, 32, 64, 109, 105, 115, 115, 105, 110, 103, 58, 32, 48, 53, 57, 48, 46, 46, 48, 53, 70, 70, 59, 32, 82, 10, 10, 48, 48, 51, 48, 46, 46, 48, 48, 51, 57, 32, 59, 32, 69, 78, 32, 35, 32, 100, 105, 103, 105, 116, 115, 10, 48, 53, 68, 48, 32, 59, 32, 82, 105, 103, 104, 116, 32, 84, 111, 32, 76, 101, 102, 116, 10] : List UInt8))] (by kernel_rfl) (by kernel_rfl) (c_classes_Read_ok ([102] : List UInt8) ([35, 32, 64, 109, 105, 115, 115, 105, 110, 103, 58, 32, 48, 48, 48, 48, 46, 46, 49, 48, 70, 70, 70, 70, 59, 32, 76, 101, 102, 116, 95, 84, 111, 95, 82, 105, 103, 104, 116, 10, 35, 32, 64, 109, 105, 115, 115, 105, 110, 103, 58, 32, 48, 53, 57, 48, 46, 46, 48, 53, 70, 70, 59, 32, 82, 10, 10, 48, 48, 51, 48, 46, 46, 48, 48, 51, 57, 32, 59, 32, 69, 78, 32, 35, 32, 100, 105, 103, 105, 116, 115, 10, 48, 53, 68, 48, 32, 59, 32, 82, 105, 103, 104, 116, 32, 84, 111, 32, 76, 101, 102, 116, 10] : List UInt8) _ (gcell_below hml hb) (by decide) (by first | kernel_rfl | assumption)) ?_)))))))
 rintro _ w5 ⟨q1, q2, q3, q4, cb8, cb9, cb10, cb11, rfl, r_q1, r_q2, r_q3, r_q4, o_cb8, g_cb8, o_cb9, g_cb9, o_cb10, g_cb10, o_cb11, g_cb11, ne_cb8_cb9, ne_cb8_cb10, ne_cb8_cb11, ne_cb9_cb10, ne_cb9_cb11, ne_cb10_cb11, hB6⟩
 replace g_cb8 := Nat.le_trans hs g_cb8
 replace g_cb9 := Nat.le_trans hs g_cb9
 replace g_cb10 := Nat.le_trans hs g_cb10
 replace g_cb11 := Nat.le_trans hs g_cb11
 have ne_cb9_cb8 := NE.symm ne_cb8_cb9
 have ne_cb10_cb8 := NE.symm ne_cb8_cb10
 have ne_cb11_cb8 := NE.symm ne_cb8_cb11
 have ne_cb10_cb9 := NE.symm ne_cb9_cb10
 have ne_cb11_cb9 := NE.symm ne_cb9_cb11
 have ne_cb11_cb10 := NE.symm ne_cb10_cb11
 replace r_q1 := r_q1.base hs
 replace r_q2 := r_q2.base hs
 replace r_q3 := r_q3.base hs
 replace r_q4 := r_q4.base hs
 replace hb := hb.trans (hB6.mono hs)
 replace hs := Nat.le_trans hs (hB6.size)
 refine zJ (zT (.pointer (some ⟨cb8, 0, none⟩)) (by kernel_rfl) (by kernel_rfl) (zT .nilIface (by kernel_rfl) (by kernel_rfl) (zL (zL (zE (zA (zF (zF (zD (zJ (zT (.bool false) (by kernel_rfl) (by kernel_rfl) (zJ (zZ (by kernel_rfl) (zJ (zZ (by kernel_rfl) (zT (.bool false) (by kernel_rfl) (by kernel_rfl) (yR (by kernel_rfl) (zE (zA (zQ (by kernel_rfl) (zY (zA (zF (zD (zJ (yD 13 [(.pointer (some ⟨cb8, 0, none⟩)), (.int .i32 49)] (by kernel_rfl) (by kernel_rfl) (c_tGiven cb8 cb9 cb10 q1 cb11 49 q2 ((clsF ([35, 32, 64, 109, 105, 115, 115, 105, 110, 103, 58, 32, 48, 48, 48, 48, 46, 46, 49, 48, 70, 70, 70, 70, 59, 32, 76, 101, 102, 116, 95, 84, 111, 95, 82, 105, 103, 104, 116, 10, 35, 32, 64, 109, 105, 115, 115, 105, 110, 103, 58, 32, 48, 53, 57, 48, 46, 46, 48, 53, 70, 70, 59, 32, 82, 10, 10, 48, 48, 51, 48, 46, 46, 48, 48, 51, 57, 32, 59, 32, 69, 78, 32, 35, 32, 100, 105, 103, 105, 116, 115, 10, 48, 53, 68, 48, 32, 59, 32, 82, 105, 103, 104, 116, 32, 84, 111, 32, 76, 101, 102, 116, 10] : List UInt8)).1.1) _ o_cb8 o_cb9 r_q2.rd (by exact (cls_ok _).1.rise)) ?_))))))))))))))))))))))))))
 rintro _ w12 ⟨rfl, hB13⟩
 replace hb := hb.trans (hB13.mono hs)
 replace hs := Nat.le_trans hs (hB13.size)
 replace o_cb8 := zB o_cb8 hB13
 replace o_cb9 := zB o_cb9 hB13
 replace o_cb10 := zB o_cb10 hB13
 replace o_cb11 := zB o_cb11 hB13
 replace r_q1 := r_q1.below hB13
 replace r_q2 := r_q2.below hB13
 replace r_q3 := r_q3.below hB13
 replace r_q4 := r_q4.below hB13
 refine zJ (zT (.int .u8 ((atM 0 ((clsF ([35, 32, 64, 109, 105, 115, 115, 105, 110, 103, 58, 32, 48, 48, 48, 48, 46, 46, 49, 48, 70, 70, 70, 70, 59, 32, 76, 101, 102, 116, 95, 84, 111, 95, 82, 105, 103, 104, 116, 10, 35, 32, 64, 109, 105, 115, 115, 105, 110, 103, 58, 32, 48, 53, 57, 48, 46, 46, 48, 53, 70, 70, 59, 32, 82, 10, 10, 48, 48, 51, 48, 46, 46, 48, 48, 51, 57, 32, 59, 32, 69, 78, 32, 35, 32, 100, 105, 103, 105, 116, 115, 10, 48, 53, 68, 48, 32, 59, 32, 82, 105, 103, 104, 116, 32, 84, 111, 32, 76, 101, 102, 116, 10] : List UInt8)).1.1) (plainF 49)).1)) (by kernel_rfl) (by kernel_rfl) (zT (.bool ((atM 0 ((clsF ([35, 32, 64, 109, 105, 115, 115, 105, 110, 103, 58, 32, 48, 48, 48, 48, 46, 46, 49, 48, 70, 70, 70, 70, 59, 32, 76, 101, 102, 116, 95, 84, 111, 95, 82, 105, 103, 104, 116, 10, 35, 32, 64, 109, 105, 115, 115, 105, 110, 103, 58, 32, 48, 53, 57, 48, 46, 46, 48, 53, 70, 70, 59, 32, 82, 10, 10, 48, 48, 51, 48, 46, 46, 48, 48, 51, 57, 32, 59, 32, 69, 78, 32, 35, 32, 100, 105, 103, 105, 116, 115, 10, 48, 53, 68, 48, 32, 59, 32, 82, 105, 103, 104, 116, 32, 84, 111, 32, 76, 101, 102, 116, 10] : List UInt8)).1.1) (plainF 49)).2)) (by kernel_rfl) (by kernel_rfl) (xK ((atM 0 ((clsF ([35, 32, 64, 109, 105, 115, 115, 105, 110, 103, 58, 32, 48, 48, 48, 48, 46, 46, 49, 48, 70, 70, 70, 70, 59, 32, 76, 101, 102, 116, 95, 84, 111, 95, 82, 105, 103, 104, 116, 10, 35, 32, 64, 109, 105, 115, 115, 105, 110, 103, 58, 32, 48, 53, 57, 48, 46, 46, 48, 53, 70, 70, 59, 32, 82, 10, 10, 48, 48, 51, 48, 46, 46, 48, 48, 51, 57, 32, 59, 32, 69, 78, 32, 35, 32, 100, 105, 103, 105, 116, 115, 10, 48, 53, 68, 48, 32, 59, 32, 82, 105, 103, 104, 116, 32, 84, 111, 32, 76, 101, 102, 116, 10] : List UInt8)).1.1) (plainF 49)).2) ?_ ?_)))
 ·intro h15
  refine zL (zL (zE (zA (zF (zD (zJ (yD 12 [(.pointer (some ⟨cb8, 0, none⟩)), (.int .i32 49)] (by kernel_rfl) (by kernel_rfl) (c_tClass cb8 cb9 cb10 q1 cb11 49 q4 (wholeF (clsF ([35, 32, 64, 109, 105, 115, 115, 105, 110, 103, 58, 32, 48, 48, 48, 48, 46, 46, 49, 48, 70, 70, 70, 70, 59, 32, 76, 101, 102, 116, 95, 84, 111, 95, 82, 105, 103, 104, 116, 10, 35, 32, 64, 109, 105, 115, 115, 105, 110, 103, 58, 32, 48, 53, 57, 48, 46, 46, 48, 53, 70, 70, 59, 32, 82, 10, 10, 48, 48, 51, 48, 46, 46, 48, 48, 51, 57, 32, 59, 32, 69, 78, 32, 35, 32, 100, 105, 103, 105, 116, 115, 10, 48, 53, 68, 48, 32, 59, 32, 82, 105, 103, 104, 116, 32, 84, 111, 32, 76, 101, 102, 116, 10] : List UInt8)).1) _ o_cb8 o_cb11 r_q4.rd (by exact (whole_ok _).rise)) ?_)))))))
  rintro _ w16 ⟨rfl, hB17⟩
  replace hb := hb.trans (hB17.mono hs)
  replace hs := Nat.le_trans hs (hB17.size)
  replace o_cb8 := zB o_cb8 hB17
  replace o_cb9 := zB o_cb9 hB17
  replace o_cb10 := zB o_cb10 hB17
  replace o_cb11 := zB o_cb11 hB17
  replace r_q1 := r_q1.below hB17
  replace r_q2 := r_q2.below hB17
  replace r_q3 := r_q3.below hB17
  replace r_q4 := r_q4.below hB17
  refine yE .u8 ((atM 0 (wholeF (clsF ([35, 32, 64, 109, 105, 115, 115, 105, 110, 103, 58, 32, 48, 48, 48, 48, 46, 46, 49, 48, 70, 70, 70, 70, 59, 32, 76, 101, 102, 116, 95, 84, 111, 95, 82, 105, 103, 104, 116, 10, 35, 32, 64, 109, 105, 115, 115, 105, 110, 103, 58, 32, 48, 53, 57, 48, 46, 46, 48, 53, 70, 70, 59, 32, 82, 10, 10, 48, 48, 51, 48, 46, 46, 48, 48, 51, 57, 32, 59, 32, 69, 78, 32, 35, 32, 100, 105, 103, 105, 116, 115, 10, 48, 53, 68, 48, 32, 59, 32, 82, 105, 103, 104, 116, 32, 84, 111, 32, 76, 101, 102, 116, 10] : List UInt8)).1) (plainF 49)).1) 4 ((atM 0 (wholeF (clsF ([35, 32, 64, 109, 105, 115, 115, 105, 110, 103, 58, 32, 48, 48, 48, 48, 46, 46, 49, 48, 70, 70, 70, 70, 59, 32, 76, 101, 102, 116, 95, 84, 111, 95, 82, 105, 103, 104, 116, 10, 35, 32, 64, 109, 105, 115, 115, 105, 110, 103, 58, 32, 48, 53, 57, 48, 46, 46, 48, 53, 70, 70, 59, 32, 82, 10, 10, 48, 48, 51, 48, 46, 46, 48, 48, 51, 57, 32, 59, 32, 69, 78, 32, 35, 32, 100, 105, 103, 105, 116, 115, 10, 48, 53, 68, 48, 32, 59, 32, 82, 105, 103, 104, 116, 32, 84, 111, 32, 76, 101, 102, 116, 10] : List UInt8)).1) (plainF 49)).1 = 4) rfl (yW ((atM 0 (wholeF (clsF ([35, 32, 64, 109, 105, 115, 115, 105, 110, 103, 58, 32, 48, 48, 48, 48, 46, 46, 49, 48, 70, 70, 70, 70, 59, 32, 76, 101, 102, 116, 95, 84, 111, 95, 82, 105, 103, 104, 116, 10, 35, 32, 64, 109, 105, 115, 115, 105, 110, 103, 58, 32, 48, 53, 57, 48, 46, 46, 48, 53, 70, 70, 59, 32, 82, 10, 10, 48, 48, 51, 48, 46, 46, 48, 48, 51, 57, 32, 59, 32, 69, 78, 32, 35, 32, 100, 105, 103, 105, 116, 115, 10, 48, 53, 68, 48, 32, 59, 32, 82, 105, 103, 104, 116, 32, 84, 111, 32, 76, 101, 102, 116, 10] : List UInt8)).1) (plainF 49)).1) 4) (by kernel_rfl) (by kernel_rfl) ?_ ?_
  ·intro h19
   replace h19 : (atM 0 (wholeF (clsF ([35, 32, 64, 109, 105, 115, 115, 105, 110, 103, 58, 32, 48, 48, 48, 48, 46, 46, 49, 48, 70, 70, 70, 70, 59, 32, 76, 101, 102, 116, 95, 84, 111, 95, 82, 105, 103, 104, 116, 10, 35, 32, 64, 109, 105, 115, 115, 105, 110, 103, 58, 32, 48, 53, 57, 48, 46, 46, 48, 53, 70, 70, 59, 32, 82, 10, 10, 48, 48, 51, 48, 46, 46, 48, 48, 51, 57, 32, 59, 32, 69, 78, 32, 35, 32, 100, 105, 103, 105, 116, 115, 10, 48, 53, 68, 48, 32, 59, 32, 82, 105, 103, 104, 116, 32, 84, 111, 32, 76, 101, 102, 116, 10] : List UInt8)).1) (plainF 49)).1 = 4 := by omega
   refine zJ (zZ (by kernel_rfl) (zJ (zZ (by kernel_rfl) (yD 12 [(.pointer (some ⟨cb8, 0, none⟩)), (.int .i32 1425)] (by kernel_rfl) (by kernel_rfl) (c_tClass cb8 cb9 cb10 q1 cb11 1425 q4 (wholeF (clsF ([35, 32, 64, 109, 105, 115, 115, 105, 110, 103, 58, 32, 48, 48, 48, 48, 46, 46, 49, 48, 70, 70, 70, 70, 59, 32, 76, 101, 102, 116, 95, 84, 111, 95, 82, 105, 103, 104, 116, 10, 35, 32, 64, 109, 105, 115, 115, 105, 110, 103, 58, 32, 48, 53, 57, 48, 46, 46, 48, 53, 70, 70, 59, 32, 82, 10, 10, 48, 48, 51, 48, 46, 46, 48, 48, 51, 57, 32, 59, 32, 69, 78, 32, 35, 32, 100, 105, 103, 105, 116, 115, 10, 48, 53, 68, 48, 32, 59, 32, 82, 105, 103, 104, 116, 32, 84, 111, 32, 76, 101, 102, 116, 10] : List UInt8)).1) _ o_cb8 o_cb11 r_q4.rd (by exact (whole_ok _).rise)) ?_))))
   rintro _ w20 ⟨rfl, hB21⟩
   replace hb := hb.trans (hB21.mono hs)
   replace hs := Nat.le_trans hs (hB21.size)
   replace o_cb8 := zB o_cb8 hB21
   replace o_cb9 := zB o_cb9 hB21
   replace o_cb10 := zB o_cb10 hB21
   replace o_cb11 := zB o_cb11 hB21
   replace r_q1 := r_q1.below hB21
   replace r_q2 := r_q2.below hB21
   replace r_q3 := r_q3.below hB21
   replace r_q4 := r_q4.below hB21
   refine zZ (by kernel_rfl) (yE .u8 ((atM 0 (wholeF (clsF ([35, 32, 64, 109, 105, 115, 115, 105, 110, 103, 58, 32, 48, 48, 48, 48, 46, 46, 49, 48, 70, 70, 70, 70, 59, 32, 76, 101, 102, 116, 95, 84, 111, 95, 82, 105, 103, 104, 116, 10, 35, 32, 64, 109, 105, 115, 115, 105, 110, 103, 58, 32, 48, 53, 57, 48, 46, 46, 48, 53, 70, 70, 59, 32, 82, 10, 10, 48, 48, 51, 48, 46, 46, 48, 48, 51, 57, 32, 59, 32, 69, 78, 32, 35, 32, 100, 105, 103, 105, 116, 115, 10, 48, 53, 68, 48, 32, 59, 32, 82, 105, 103, 104, 116, 32, 84, 111, 32, 76, 101, 102, 116, 10] : List UInt8)).1) (plainF 1425)).1) 2 ((atM 0 (wholeF (clsF ([35, 32, 64, 109, 105, 115, 115, 105, 110, 103, 58, 32, 48, 48, 48, 48, 46, 46, 49, 48, 70, 70, 70, 70, 59, 32, 76, 101, 102, 116, 95, 84, 111, 95, 82, 105, 103, 104, 116, 10, 35, 32, 64, 109, 105, 115, 115, 105, 110, 103, 58, 32, 48, 53, 57, 48, 46, 46, 48, 53, 70, 70, 59, 32, 82, 10, 10, 48, 48, 51, 48, 46, 46, 48, 48, 51, 57, 32, 59, 32, 69, 78, 32, 35, 32, 100, 105, 103, 105, 116, 115, 10, 48, 53, 68, 48, 32, 59, 32, 82, 105, 103, 104, 116, 32, 84, 111, 32, 76, 101, 102, 116, 10] : List UInt8)).1) (plainF 1425)).1 = 2) rfl (yW ((atM 0 (wholeF (clsF ([35, 32, 64, 109, 105, 115, 115, 105, 110, 103, 58, 32, 48, 48, 48, 48, 46, 46, 49, 48, 70, 70, 70, 70, 59, 32, 76, 101, 102, 116, 95, 84, 111, 95, 82, 105, 103, 104, 116, 10, 35, 32, 64, 109, 105, 115, 115, 105, 110, 103, 58, 32, 48, 53, 57, 48, 46, 46, 48, 53, 70, 70, 59, 32, 82, 10, 10, 48, 48, 51, 48, 46, 46, 48, 48, 51, 57, 32, 59, 32, 69, 78, 32, 35, 32, 100, 105, 103, 105, 116, 115, 10, 48, 53, 68, 48, 32, 59, 32, 82, 105, 103, 104, 116, 32, 84, 111, 32, 76, 101, 102, 116, 10] : List UInt8)).1) (plainF 1425)).1) 2) (by kernel_rfl) (by kernel_rfl) ?_ ?_)
   ·intro h23
    replace h23 : (atM 0 (wholeF (clsF ([35, 32, 64, 109, 105, 115, 115, 105, 110, 103, 58, 32, 48, 48, 48, 48, 46, 46, 49, 48, 70, 70, 70, 70, 59, 32, 76, 101, 102, 116, 95, 84, 111, 95, 82, 105, 103, 104, 116, 10, 35, 32, 64, 109, 105, 115, 115, 105, 110, 103, 58, 32, 48, 53, 57, 48, 46, 46, 48, 53, 70, 70, 59, 32, 82, 10, 10, 48, 48, 51, 48, 46, 46, 48, 48, 51, 57, 32, 59, 32, 69, 78, 32, 35, 32, 100, 105, 103, 105, 116, 115, 10, 48, 53, 68, 48, 32, 59, 32, 82, 105, 103, 104, 116, 32, 84, 111, 32, 76, 101, 102, 116, 10] : List UInt8)).1) (plainF 1425)).1 = 2 := by omega
    refine yS (by kernel_rfl) (zJ (zZ (by kernel_rfl) (zJ (zZ (by kernel_rfl) (yD 12 [(.pointer (some ⟨cb8, 0, none⟩)), (.int .i32 1536)] (by kernel_rfl) (by kernel_rfl) (c_tClass cb8 cb9 cb10 q1 cb11 1536 q4 (wholeF (clsF ([35, 32, 64, 109, 105, 115, 115, 105, 110, 103, 58, 32, 48, 48, 48, 48, 46, 46, 49, 48, 70, 70, 70, 70, 59, 32, 76, 101, 102, 116, 95, 84, 111, 95, 82, 105, 103, 104, 116, 10, 35, 32, 64, 109, 105, 115, 115, 105, 110, 103, 58, 32, 48, 53, 57, 48, 46, 46, 48, 53, 70, 70, 59, 32, 82, 10, 10, 48, 48, 51, 48, 46, 46, 48, 48, 51, 57, 32, 59, 32, 69, 78, 32, 35, 32, 100, 105, 103, 105, 116, 115, 10, 48, 53, 68, 48, 32, 59, 32, 82, 105, 103, 104, 116, 32, 84, 111, 32, 76, 101, 102, 116, 10] : List UInt8)).1) _ o_cb8 o_cb11 r_q4.rd (by exact (whole_ok _).rise)) ?_)))))
    rintro _ w24 ⟨rfl, hB25⟩
    replace hb := hb.trans (hB25.mono hs)
    replace hs := Nat.le_trans hs (hB25.size)
    replace o_cb8 := zB o_cb8 hB25
    replace o_cb9 := zB o_cb9 hB25
    replace o_cb10 := zB o_cb10 hB25
    replace o_cb11 := zB o_cb11 hB25
    replace r_q1 := r_q1.below hB25
    replace r_q2 := r_q2.below hB25
    replace r_q3 := r_q3.below hB25
    replace r_q4 := r_q4.below hB25
    refine zZ (by kernel_rfl) (yE .u8 ((atM 0 (wholeF (clsF ([35, 32, 64, 109, 105, 115, 115, 105, 110, 103, 58, 32, 48, 48, 48, 48, 46, 46, 49, 48, 70, 70, 70, 70, 59, 32, 76, 101, 102, 116, 95, 84, 111, 95, 82, 105, 103, 104, 116, 10, 35, 32, 64, 109, 105, 115, 115, 105, 110, 103, 58, 32, 48, 53, 57, 48, 46, 46, 48, 53, 70, 70, 59, 32, 82, 10, 10, 48, 48, 51, 48, 46, 46, 48, 48, 51, 57, 32, 59, 32, 69, 78, 32, 35, 32, 100, 105, 103, 105, 116, 115, 10, 48, 53, 68, 48, 32, 59, 32, 82, 105, 103, 104, 116, 32, 84, 111, 32, 76, 101, 102, 116, 10] : List UInt8)).1) (plainF 1536)).1) 1 ((atM 0 (wholeF (clsF ([35, 32, 64, 109, 105, 115, 115, 105, 110, 103, 58, 32, 48, 48, 48, 48, 46, 46, 49, 48, 70, 70, 70, 70, 59, 32, 76, 101, 102, 116, 95, 84, 111, 95, 82, 105, 103, 104, 116, 10, 35, 32, 64, 109, 105, 115, 115, 105, 110, 103, 58, 32, 48, 53, 57, 48, 46, 46, 48, 53, 70, 70, 59, 32, 82, 10, 10, 48, 48, 51, 48, 46, 46, 48, 48, 51, 57, 32, 59, 32, 69, 78, 32, 35, 32, 100, 105, 103, 105, 116, 115, 10, 48, 53, 68, 48, 32, 59, 32, 82, 105, 103, 104, 116, 32, 84, 111, 32, 76, 101, 102, 116, 10] : List UInt8)).1) (plainF 1536)).1 = 1) rfl (yW ((atM 0 (wholeF (clsF ([35, 32, 64, 109, 105, 115, 115, 105, 110, 103, 58, 32, 48, 48, 48, 48, 46, 46, 49, 48, 70, 70, 70, 70, 59, 32, 76, 101, 102, 116, 95, 84, 111, 95, 82, 105, 103, 104, 116, 10, 35, 32, 64, 109, 105, 115, 115, 105, 110, 103, 58, 32, 48, 53, 57, 48, 46, 46, 48, 53, 70, 70, 59, 32, 82, 10, 10, 48, 48, 51, 48, 46, 46, 48, 48, 51, 57, 32, 59, 32, 69, 78, 32, 35, 32, 100, 105, 103, 105, 116, 115, 10, 48, 53, 68, 48, 32, 59, 32, 82, 105, 103, 104, 116, 32, 84, 111, 32, 76, 101, 102, 116, 10] : List UInt8)).1) (plainF 1536)).1) 1) (by kernel_rfl) (by kernel_rfl) ?_ ?_)
    ·intro h27
     replace h27 : (atM 0 (wholeF (clsF ([35, 32, 64, 109, 105, 115, 115, 105, 110, 103, 58, 32, 48, 48, 48, 48, 46, 46, 49, 48, 70, 70, 70, 70, 59, 32, 76, 101, 102, 116, 95, 84, 111, 95, 82, 105, 103, 104, 116, 10, 35, 32, 64, 109, 105, 115, 115, 105, 110, 103, 58, 32, 48, 53, 57, 48, 46, 46, 48, 53, 70, 70, 59, 32, 82, 10, 10, 48, 48, 51, 48, 46, 46, 48, 48, 51, 57, 32, 59, 32, 69, 78, 32, 35, 32, 100, 105, 103, 105, 116, 115, 10, 48, 53, 68, 48, 32, 59, 32, 82, 105, 103, 104, 116, 32, 84, 111, 32, 76, 101, 102, 116, 10] : List UInt8)).1) (plainF 1536)).1 = 1 := by omega
     refine yS (by kernel_rfl) (zJ (zZ (by kernel_rfl) (zJ (zZ (by kernel_rfl) (yE .u8 ((atM 0 ((clsF ([35, 32, 64, 109, 105, 115, 115, 105, 110, 103, 58, 32, 48, 48, 48, 48, 46, 46, 49, 48, 70, 70, 70, 70, 59, 32, 76, 101, 102, 116, 95, 84, 111, 95, 82, 105, 103, 104, 116, 10, 35, 32, 64, 109, 105, 115, 115, 105, 110, 103, 58, 32, 48, 53, 57, 48, 46, 46, 48, 53, 70, 70, 59, 32, 82, 10, 10, 48, 48, 51, 48, 46, 46, 48, 48, 51, 57, 32, 59, 32, 69, 78, 32, 35, 32, 100, 105, 103, 105, 116, 115, 10, 48, 53, 68, 48, 32, 59, 32, 82, 105, 103, 104, 116, 32, 84, 111, 32, 76, 101, 102, 116, 10] : List UInt8)).1.1) (plainF 49)).1) 4 ((atM 0 ((clsF ([35, 32, 64, 109, 105, 115, 115, 105, 110, 103, 58, 32, 48, 48, 48, 48, 46, 46, 49, 48, 70, 70, 70, 70, 59, 32, 76, 101, 102, 116, 95, 84, 111, 95, 82, 105, 103, 104, 116, 10, 35, 32, 64, 109, 105, 115, 115, 105, 110, 103, 58, 32, 48, 53, 57, 48, 46, 46, 48, 53, 70, 70, 59, 32, 82, 10, 10, 48, 48, 51, 48, 46, 46, 48, 48, 51, 57, 32, 59, 32, 69, 78, 32, 35, 32, 100, 105, 103, 105, 116, 115, 10, 48, 53, 68, 48, 32, 59, 32, 82, 105, 103, 104, 116, 32, 84, 111, 32, 76, 101, 102, 116, 10] : List UInt8)).1.1) (plainF 49)).1 = 4) rfl (yW ((atM 0 ((clsF ([35, 32, 64, 109, 105, 115, 115, 105, 110, 103, 58, 32, 48, 48, 48, 48, 46, 46, 49, 48, 70, 70, 70, 70, 59, 32, 76, 101, 102, 116, 95, 84, 111, 95, 82, 105, 103, 104, 116, 10, 35, 32, 64, 109, 105, 115, 115, 105, 110, 103, 58, 32, 48, 53, 57, 48, 46, 46, 48, 53, 70, 70, 59, 32, 82, 10, 10, 48, 48, 51, 48, 46, 46, 48, 48, 51, 57, 32, 59, 32, 69, 78, 32, 35, 32, 100, 105, 103, 105, 116, 115, 10, 48, 53, 68, 48, 32, 59, 32, 82, 105, 103, 104, 116, 32, 84, 111, 32, 76, 101, 102, 116, 10] : List UInt8)).1.1) (plainF 49)).1) 4) (by kernel_rfl) (by kernel_rfl) ?_ ?_)))))
     ·intro h28
      replace h28 : (atM 0 ((clsF ([35, 32, 64, 109, 105, 115, 115, 105, 110, 103, 58, 32, 48, 48, 48, 48, 46, 46, 49, 48, 70, 70, 70, 70, 59, 32, 76, 101, 102, 116, 95, 84, 111, 95, 82, 105, 103, 104, 116, 10, 35, 32, 64, 109, 105, 115, 115, 105, 110, 103, 58, 32, 48, 53, 57, 48, 46, 46, 48, 53, 70, 70, 59, 32, 82, 10, 10, 48, 48, 51, 48, 46, 46, 48, 48, 51, 57, 32, 59, 32, 69, 78, 32, 35, 32, 100, 105, 103, 105, 116, 115, 10, 48, 53, 68, 48, 32, 59, 32, 82, 105, 103, 104, 116, 32, 84, 111, 32, 76, 101, 102, 116, 10] : List UInt8)).1.1) (plainF 49)).1 = 4 := by omega
      refine yS (by kernel_rfl) (zJ (zZ (by kernel_rfl) (zJ (yS (by kernel_rfl) (zJ (zZ (by kernel_rfl) (zJ (zZ (by kernel_rfl) (yD 14 [(.pointer (some ⟨cb8, 0, none⟩)), (.int .i32 1488)] (by kernel_rfl) (by kernel_rfl) (c_tLine cb8 cb9 cb10 q1 cb11 1488 q3 ((clsF ([35, 32, 64, 109, 105, 115, 115, 105, 110, 103, 58, 32, 48, 48, 48, 48, 46, 46, 49, 48, 70, 70, 70, 70, 59, 32, 76, 101, 102, 116, 95, 84, 111, 95, 82, 105, 103, 104, 116, 10, 35, 32, 64, 109, 105, 115, 115, 105, 110, 103, 58, 32, 48, 53, 57, 48, 46, 46, 48, 53, 70, 70, 59, 32, 82, 10, 10, 48, 48, 51, 48, 46, 46, 48, 48, 51, 57, 32, 59, 32, 69, 78, 32, 35, 32, 100, 105, 103, 105, 116, 115, 10, 48, 53, 68, 48, 32, 59, 32, 82, 105, 103, 104, 116, 32, 84, 111, 32, 76, 101, 102, 116, 10] : List UInt8)).1.2.1) _ o_cb8 o_cb10 r_q3.rd (by exact (cls_ok _).2.1.rise)) ?_)))))))))
      rintro _ w29 ⟨rfl, hB30⟩
      replace hb := hb.trans (hB30.mono hs)
      replace hs := Nat.le_trans hs (hB30.size)
      replace o_cb8 := zB o_cb8 hB30
      replace o_cb9 := zB o_cb9 hB30
      replace o_cb10 := zB o_cb10 hB30
      replace o_cb11 := zB o_cb11 hB30
      replace r_q1 := r_q1.below hB30
      replace r_q2 := r_q2.below hB30
      replace r_q3 := r_q3.below hB30
      replace r_q4 := r_q4.below hB30
      refine zZ (by kernel_rfl) (yE .i64 ((atM 0 ((clsF ([35, 32, 64, 109, 105, 115, 115, 105, 110, 103, 58, 32, 48, 48, 48, 48, 46, 46, 49, 48, 70, 70, 70, 70, 59, 32, 76, 101, 102, 116, 95, 84, 111, 95, 82, 105, 103, 104, 116, 10, 35, 32, 64, 109, 105, 115, 115, 105, 110, 103, 58, 32, 48, 53, 57, 48, 46, 46, 48, 53, 70, 70, 59, 32, 82, 10, 10, 48, 48, 51, 48, 46, 46, 48, 48, 51, 57, 32, 59, 32, 69, 78, 32, 35, 32, 100, 105, 103, 105, 116, 115, 10, 48, 53, 68, 48, 32, 59, 32, 82, 105, 103, 104, 116, 32, 84, 111, 32, 76, 101, 102, 116, 10] : List UInt8)).1.2.1) (plainF 1488)).1) 5 ((atM 0 ((clsF ([35, 32, 64, 109, 105, 115, 115, 105, 110, 103, 58, 32, 48, 48, 48, 48, 46, 46, 49, 48, 70, 70, 70, 70, 59, 32, 76, 101, 102, 116, 95, 84, 111, 95, 82, 105, 103, 104, 116, 10, 35, 32, 64, 109, 105, 115, 115, 105, 110, 103, 58, 32, 48, 53, 57, 48, 46, 46, 48, 53, 70, 70, 59, 32, 82, 10, 10, 48, 48, 51, 48, 46, 46, 48, 48, 51, 57, 32, 59, 32, 69, 78, 32, 35, 32, 100, 105, 103, 105, 116, 115, 10, 48, 53, 68, 48, 32, 59, 32, 82, 105, 103, 104, 116, 32, 84, 111, 32, 76, 101, 102, 116, 10] : List UInt8)).1.2.1) (plainF 1488)).1 = 5) rfl (yW ((atM 0 ((clsF ([35, 32, 64, 109, 105, 115, 115, 105, 110, 103, 58, 32, 48, 48, 48, 48, 46, 46, 49, 48, 70, 70, 70, 70, 59, 32, 76, 101, 102, 116, 95, 84, 111, 95, 82, 105, 103, 104, 116, 10, 35, 32, 64, 109, 105, 115, 115, 105, 110, 103, 58, 32, 48, 53, 57, 48, 46, 46, 48, 53, 70, 70, 59, 32, 82, 10, 10, 48, 48, 51, 48, 46, 46, 48, 48, 51, 57, 32, 59, 32, 69, 78, 32, 35, 32, 100, 105, 103, 105, 116, 115, 10, 48, 53, 68, 48, 32, 59, 32, 82, 105, 103, 104, 116, 32, 84, 111, 32, 76, 101, 102, 116, 10] : List UInt8)).1.2.1) (plainF 1488)).1) 5) (by kernel_rfl) (by kernel_rfl) ?_ ?_)
      ·intro h32
       replace h32 : (atM 0 ((clsF ([35, 32, 64, 109, 105, 115, 115, 105, 110, 103, 58, 32, 48, 48, 48, 48, 46, 46, 49, 48, 70, 70, 70, 70, 59, 32, 76, 101, 102, 116, 95, 84, 111, 95, 82, 105, 103, 104, 116, 10, 35, 32, 64, 109, 105, 115, 115, 105, 110, 103, 58, 32, 48, 53, 57, 48, 46, 46, 48, 53, 70, 70, 59, 32, 82, 10, 10, 48, 48, 51, 48, 46, 46, 48, 48, 51, 57, 32, 59, 32, 69, 78, 32, 35, 32, 100, 105, 103, 105, 116, 115, 10, 48, 53, 68, 48, 32, 59, 32, 82, 105, 103, 104, 116, 32, 84, 111, 32, 76, 101, 102, 116, 10] : List UInt8)).1.2.1) (plainF 1488)).1 = 5 := by omega
       refine yS (by kernel_rfl) (zL (zE (zA (yA ?_))))
       refine zR [.tmp 0] [(.bool true)] rfl rfl ⟨by kernel_rfl, trivial⟩ ?_
       have e0 : true = true := by first | rfl | (rw [lives_tab]; kernel_rfl)
       exact ⟨congrArg Value.bool e0, hb⟩
      ·intro h33
       replace h33 : (atM 0 ((clsF ([35, 32, 64, 109, 105, 115, 115, 105, 110, 103, 58, 32, 48, 48, 48, 48, 46, 46, 49, 48, 70, 70, 70, 70, 59, 32, 76, 101, 102, 116, 95, 84, 111, 95, 82, 105, 103, 104, 116, 10, 35, 32, 64, 109, 105, 115, 115, 105, 110, 103, 58, 32, 48, 53, 57, 48, 46, 46, 48, 53, 70, 70, 59, 32, 82, 10, 10, 48, 48, 51, 48, 46, 46, 48, 48, 51, 57, 32, 59, 32, 69, 78, 32, 35, 32, 100, 105, 103, 105, 116, 115, 10, 48, 53, 68, 48, 32, 59, 32, 82, 105, 103, 104, 116, 32, 84, 111, 32, 76, 101, 102, 116, 10] : List UInt8)).1.2.1) (plainF 1488)).1 ≠ 5 := by omega
       exfalso; exact h33 (by rw [lives_tab]; kernel_rfl)
     ·intro h34
      replace h34 : (atM 0 ((clsF ([35, 32, 64, 109, 105, 115, 115, 105, 110, 103, 58, 32, 48, 48, 48, 48, 46, 46, 49, 48, 70, 70, 70, 70, 59, 32, 76, 101, 102, 116, 95, 84, 111, 95, 82, 105, 103, 104, 116, 10, 35, 32, 64, 109, 105, 115, 115, 105, 110, 103, 58, 32, 48, 53, 57, 48, 46, 46, 48, 53, 70, 70, 59, 32, 82, 10, 10, 48, 48, 51, 48, 46, 46, 48, 48, 51, 57, 32, 59, 32, 69, 78, 32, 35, 32, 100, 105, 103, 105, 116, 115, 10, 48, 53, 68, 48, 32, 59, 32, 82, 105, 103, 104, 116, 32, 84, 111, 32, 76, 101, 102, 116, 10] : List UInt8)).1.1) (plainF 49)).1 ≠ 4 := by omega
      exfalso; exact h34 (by rw [lives_tab]; kernel_rfl)
    ·intro h35
     replace h35 : (atM 0 (wholeF (clsF ([35, 32, 64, 109, 105, 115, 115, 105, 110, 103, 58, 32, 48, 48, 48, 48, 46, 46, 49, 48, 70, 70, 70, 70, 59, 32, 76, 101, 102, 116, 95, 84, 111, 95, 82, 105, 103, 104, 116, 10, 35, 32, 64, 109, 105, 115, 115, 105, 110, 103, 58, 32, 48, 53, 57, 48, 46, 46, 48, 53, 70, 70, 59, 32, 82, 10, 10, 48, 48, 51, 48, 46, 46, 48, 48, 51, 57, 32, 59, 32, 69, 78, 32, 35, 32, 100, 105, 103, 105, 116, 115, 10, 48, 53, 68, 48, 32, 59, 32, 82, 105, 103, 104, 116, 32, 84, 111, 32, 76, 101, 102, 116, 10] : List UInt8)).1) (plainF 1536)).1 ≠ 1 := by omega
     exfalso; exact h35 (by rw [lives_tab]; kernel_rfl)
   ·intro h36
    replace h36 : (atM 0 (wholeF (clsF ([35, 32, 64, 109, 105, 115, 115, 105, 110, 103, 58, 32, 48, 48, 48, 48, 46, 46, 49, 48, 70, 70, 70, 70, 59, 32, 76, 101, 102, 116, 95, 84, 111, 95, 82, 105, 103, 104, 116, 10, 35, 32, 64, 109, 105, 115, 115, 105, 110, 103, 58, 32, 48, 53, 57, 48, 46, 46, 48, 53, 70, 70, 59, 32, 82, 10, 10, 48, 48, 51, 48, 46, 46, 48, 48, 51, 57, 32, 59, 32, 69, 78, 32, 35, 32, 100, 105, 103, 105, 116, 115, 10, 48, 53, 68, 48, 32, 59, 32, 82, 105, 103, 104, 116, 32, 84, 111, 32, 76, 101, 102, 116, 10] : List UInt8)).1) (plainF 1425)).1 ≠ 2 := by omega
    exfalso; exact h36 (by rw [lives_tab]; kernel_rfl)
  ·intro h37
   replace h37 : (atM 0 (wholeF (clsF ([35, 32, 64, 109, 105, 115, 115, 105, 110, 103, 58, 32, 48, 48, 48, 48, 46, 46, 49, 48, 70, 70, 70, 70, 59, 32, 76, 101, 102, 116, 95, 84, 111, 95, 82, 105, 103, 104, 116, 10, 35, 32, 64, 109, 105, 115, 115, 105, 110, 103, 58, 32, 48, 53, 57, 48, 46, 46, 48, 53, 70, 70, 59, 32, 82, 10, 10, 48, 48, 51, 48, 46, 46, 48, 48, 51, 57, 32, 59, 32, 69, 78, 32, 35, 32, 100, 105, 103, 105, 116, 115, 10, 48, 53, 68, 48, 32, 59, 32, 82, 105, 103, 104, 116, 32, 84, 111, 32, 76, 101, 102, 116, 10] : List UInt8)).1) (plainF 49)).1 ≠ 4 := by omega
   exfalso; exact h37 (by rw [lives_tab]; kernel_rfl)
 ·intro h38
  exfalso; rw [lives_tab] at h38; exact absurd h38 (by decide +kernel)
end Go.Proofs.YtkclikfejmeblaaGreatDoor
end

/- === Wcwho === -/
section
/- Walks, written by my program walk.py out of the specification cwho.py: each theorem says what one function returns and that it leaves memory as it was. -/
namespace Go.Proofs.YtkclikfejmeblaaGreatDoor
open Go Go.RowKit Go.FK
set_option maxHeartbeats 4000000
set_option maxRecDepth 100000
set_option linter.unusedVariables false
set_option linter.unusedSimpArgs false
theorem c_furrowlaw07_ClassesWhole (s : List UInt8) (w : World) {m_ml : Int} (hml : w.cell? ⟨1, 0, none⟩ = some (.int .i64 m_ml)) :
  Calls Tryz.prog 4 #[(S s)] w (Ret fun v w' => v = (.bool true) ∧ Below w.heap.size w w') := by
 refine enter (args := [(S s)]) Tryz.func4 rfl (by kernel_rfl : _ = 191) (by kernel_rfl) ?_
 have hb := Below.refl w.heap.size w
 have hs : w.heap.size ≤ w.heap.size := Nat.le_refl _
 have hal := (cls_ok s).1.rise.len
 have hwl := (whole_ok (clsF s).1).rise.len
 have hlw := few1 (wholeF (clsF s).1)
 have hla := few1 (clsF s).1.1
 have hlw2 : (fewC (wholeF (clsF s).1) (-1)).length = (wholeF (clsF s).1).length := by rw [hlw]
 have hla2 : (fewC (clsF s).1.1 (-1)).length = (clsF s).1.1.length := by rw [hla]
 refine zF (zD (zL (zE (zA (zF (zF (zD (zJ (L_slen 9 s rfl Tryz.underlying9 (by kernel_rfl) (yE .i64 (((s).length : Nat) : Int) ((40000 : Nat) : Int) (40000 < (s).length) rfl (cmpN_gt ((s).length) 40000) (by kernel_rfl) (by kernel_rfl) ?_ ?_))))))))))
 ·intro h1
  replace h1 : 40000 < (s).length := by omega
  refine zJ (yF (by kernel_rfl) (yF (by kernel_rfl) (yS (by kernel_rfl) (zE (zA (zV (by kernel_rfl) (zF (zD (yD 9 [] (by kernel_rfl) (by kernel_rfl) (c_lives7  _ (gcell_below hml hb)) ?_)))))))))
  rintro _ w2 ⟨rfl, hB3⟩
  replace hb := hb.trans (hB3.mono hs)
  replace hs := Nat.le_trans hs (hB3.size)
  refine zL (zE (zA (yA (zM ?_))))
  refine zR [.tmp 2] [(.bool true)] rfl rfl ⟨by kernel_rfl, trivial⟩ ?_
  have e0 : true = true := by rfl
  exact ⟨congrArg Value.bool e0, hb⟩
 ·intro h5
  replace h5 : (s).length ≤ 40000 := by omega
  refine zJ (zZ (by kernel_rfl) (yD 9 [] (by kernel_rfl) (by kernel_rfl) (c_lives7  _ (gcell_below hml hb)) ?_))
  rintro _ w6 ⟨rfl, hB7⟩
  replace hb := hb.trans (hB7.mono hs)
  replace hs := Nat.le_trans hs (hB7.size)
  refine zZ (by kernel_rfl) (L_not true (by kernel_rfl) (yR (by kernel_rfl) (zE (zA (zQ (by kernel_rfl) (zY (zA (zF (zD (zJ ?_))))))))))
  by_cases hq9 : (clsF s).2.2 = 0
  ·skip
   refine yD 10 [(S ([120] : List UInt8)), (S s)] (by kernel_rfl) (by kernel_rfl) (c_classes_Read_ok ([120] : List UInt8) s _ (gcell_below hml hb) (by first | omega | assumption | (simp; done)) (by assumption)) ?_
   rintro _ w14 ⟨q10, q11, q12, q13, cb17, cb18, cb19, cb20, rfl, r_q10, r_q11, r_q12, r_q13, o_cb17, g_cb17, o_cb18, g_cb18, o_cb19, g_cb19, o_cb20, g_cb20, ne_cb17_cb18, ne_cb17_cb19, ne_cb17_cb20, ne_cb18_cb19, ne_cb18_cb20, ne_cb19_cb20, hB15⟩
   replace g_cb17 := Nat.le_trans hs g_cb17
   replace g_cb18 := Nat.le_trans hs g_cb18
   replace g_cb19 := Nat.le_trans hs g_cb19
   replace g_cb20 := Nat.le_trans hs g_cb20
   have ne_cb18_cb17 := NE.symm ne_cb17_cb18
   have ne_cb19_cb17 := NE.symm ne_cb17_cb19
   have ne_cb20_cb17 := NE.symm ne_cb17_cb20
   have ne_cb19_cb18 := NE.symm ne_cb18_cb19
   have ne_cb20_cb18 := NE.symm ne_cb18_cb20
   have ne_cb20_cb19 := NE.symm ne_cb19_cb20
   replace r_q10 := r_q10.base hs
   replace r_q11 := r_q11.base hs
   replace r_q12 := r_q12.base hs
   replace r_q13 := r_q13.base hs
   replace hb := hb.trans (hB15.mono hs)
   replace hs := Nat.le_trans hs (hB15.size)
   refine zJ (zT (.pointer (some ⟨cb17, 0, none⟩)) (by kernel_rfl) (by kernel_rfl) (zT .nilIface (by kernel_rfl) (by kernel_rfl) (zL (zL (zE (zA (zF (zF (zD (zJ (zT (.bool false) (by kernel_rfl) (by kernel_rfl) (zE (zA (zQ (by kernel_rfl) (zY (zA (zF (zD (zL (zE (zA (zF (zD (zL (zE (zA (zF (zD (zJ (yD 11 [(.pointer (some ⟨cb17, 0, none⟩)), (.bool true), (.int .i64 (-1))] (by kernel_rfl) (by kernel_rfl) (c_toldW cb17 cb18 cb19 q10 cb20 (-1) q13 (wholeF (clsF s).1) _ o_cb17 o_cb20 r_q13.rd (by omega)) ?_))))))))))))))))))))))))))))))
   rintro q21 w22 ⟨_, rfl, r_q21, hB23⟩
   replace r_q21 := r_q21.base hs
   replace hb := hb.trans (hB23.mono hs)
   replace hs := Nat.le_trans hs (hB23.size)
   replace o_cb17 := zB o_cb17 hB23
   replace o_cb18 := zB o_cb18 hB23
   replace o_cb19 := zB o_cb19 hB23
   replace o_cb20 := zB o_cb20 hB23
   replace r_q10 := r_q10.below hB23
   replace r_q11 := r_q11.below hB23
   replace r_q12 := r_q12.below hB23
   replace r_q13 := r_q13.below hB23
   refine zL (zE (zA (zF (zF (zD (zL (zE (zA (yU ?_)))))))))
   refine W_loop (fun m s0 w0 => ∃ (i : Nat) (at_ : Int) (last : Int), (m = (fewC (wholeF (clsF s).1) (-1)).length - i) ∧ (s0.ds = []) ∧ (s0.f 3 = (.pointer (some ⟨cb17, 0, none⟩))) ∧ (s0.f 7 = q21) ∧ (s0.f 5 = (.int .i32 at_)) ∧ (s0.f 6 = (.int .u8 last)) ∧ (s0.f 8 = (.int .i64 ((i : Nat) : Int))) ∧ (Row w0 w.heap.size 45 3 encSpanC q10 ((clsF s).1.2.2)) ∧ (Row w0 w.heap.size 126 3 encSpanC q11 ((clsF s).1.1)) ∧ (Row w0 w.heap.size 131 3 encSpanI q12 ((clsF s).1.2.1)) ∧ (Row w0 w.heap.size 126 3 encSpanC q13 (wholeF (clsF s).1)) ∧ (Row w0 w.heap.size 34 3 encSpanC q21 (fewC (wholeF (clsF s).1) (-1))) ∧ (w0.heap[cb17]? = some (.cells [(.pointer (some ⟨cb18, 0, none⟩)), (.pointer (some ⟨cb19, 0, none⟩)), q10, (.pointer (some ⟨cb20, 0, none⟩))].toArray 66 (0, 0))) ∧ (w0.heap[cb18]? = some (.cells [q11, (.bool true)].toArray 115 (0, 0))) ∧ (w0.heap[cb19]? = some (.cells [q12, (.bool true)].toArray 118 (0, 0))) ∧ (w0.heap[cb20]? = some (.cells [q13, (.bool true)].toArray 115 (0, 0))) ∧ (Below w.heap.size w w0) ∧ (w.heap.size ≤ w0.heap.size) ∧ (i ≤ (fewC (wholeF (clsF s).1) (-1)).length) ∧ (wI (wholeF (clsF s).1) i at_ last)) _ ⟨0, 0, 0, rfl, by kernel_rfl, by kernel_rfl, by kernel_rfl, by kernel_rfl, by kernel_rfl, by kernel_rfl, r_q10, r_q11, r_q12, r_q13, r_q21, o_cb17, o_cb18, o_cb19, o_cb20, hb, hs, (Nat.zero_le _), (wI_zero _)⟩ ?_
   rintro m25 s26 w27 ⟨i, at_, last, hm, hds, f_3, f_7, f_5, f_6, f_8, r_q10, r_q11, r_q12, r_q13, r_q21, o_cb17, o_cb18, o_cb19, o_cb20, hb, hs, i0, i1⟩
   refine yL 3 _ f_3 (yL 7 _ f_7 (yL 5 _ f_5 (yL 6 _ f_6 (yL 8 _ f_8 ?_))))
   clear f_3 f_7 f_5 f_6 f_8
   have hwr := wI_rng i1 (whole_ok (clsF s).1).rise
   refine zF (zF (zD (zJ (zJ (L_len 29 34 ((fewC (wholeF (clsF s).1) (-1))).length q21 rfl Tryz.underlying29 (r_q21.rd).len (by kernel_rfl) (yE .i64 ((i : Nat) : Int) ((((fewC (wholeF (clsF s).1) (-1))).length : Nat) : Int) (i < ((fewC (wholeF (clsF s).1) (-1))).length) rfl (cmpN_lt i (((fewC (wholeF (clsF s).1) (-1))).length)) (by kernel_rfl) (by kernel_rfl) ?_ ?_))))))
   ·intro h28
    replace h28 : i < ((fewC (wholeF (clsF s).1) (-1))).length := by omega
    refine zE (zA (zV (by kernel_rfl) (zY (zA (zF (yU (zF (zF (W_quiet (by kernel_rfl) (by kernel_rfl) (yG (yG ?_)))))))))))
    have hz := xD (fewC (wholeF (clsF s).1) (-1)) i (by first | omega | assumption | (simp; done)); obtain ⟨x29, hx30⟩ := hz
    have hz := (r_q21.rd).at (k := 3) (fun _ => rfl) hx30
    obtain ⟨g31, off32, hl33, hc34⟩ := hz
    have hw_x29 := wA i1 hx30
    have hw1_x29 := hw_x29.1
    have hw2_x29 := hw_x29.2.1
    have hw3_x29 := hw_x29.2.2.1
    refine xS (k := .i64) q21 i _ g31 off32 el29 hl33 (by first | omega | assumption | (simp; done)) (by kernel_rfl) (by kernel_rfl) (yK (.pointer (some ⟨g31, (off32 + i * 3), none⟩)) (fun _ => by kernel_rfl) (yK (.pointer (some ⟨g31, (off32 + i * 3), none⟩)) (fun _ => by kernel_rfl) (yN g31 (off32 + i * 3) (.int .i32 x29.1) (by kernel_rfl) (fun _ => by kernel_rfl) (hc34 0 _ rfl) (yG (Lq_cmp .i32 x29.1 at_ (x29.1 ≠ at_) rfl (cmp_ne x29.1 at_) (by kernel_rfl) (by kernel_rfl) ?_ ?_)))))
    ·intro h35
     replace h35 : x29.1 ≠ at_ := by omega
     refine yG (zN (by kernel_rfl) (zN (by kernel_rfl) (zN (by kernel_rfl) (zN (by kernel_rfl) (zN (by kernel_rfl) (zN (by kernel_rfl) (zN (by kernel_rfl) (zN (by kernel_rfl) (zN (by kernel_rfl) (zN (by kernel_rfl) (zN (by kernel_rfl) (zN (by kernel_rfl) (zN (by kernel_rfl) (xG (by kernel_rfl) (yG (zN (by kernel_rfl) (zN (by kernel_rfl) (zN (by kernel_rfl) (zN (by kernel_rfl) (zN (by kernel_rfl) (zN (by kernel_rfl) (zN (by kernel_rfl) (xG (by kernel_rfl) (yG (zN (by kernel_rfl) (zN (by kernel_rfl) (zN (by kernel_rfl) (zN (by kernel_rfl) (zN (by kernel_rfl) (zN (by kernel_rfl) (zN (by kernel_rfl) (zN (by kernel_rfl) (zN (by kernel_rfl) (zN (by kernel_rfl) (zN (by kernel_rfl) (zN (by kernel_rfl) (zN (by kernel_rfl) (zN (by kernel_rfl) (xG (by kernel_rfl) (yG (zN (by kernel_rfl) (zN (by kernel_rfl) (zN (by kernel_rfl) (zN (by kernel_rfl) (zN (by kernel_rfl) (zN (by kernel_rfl) (zN (by kernel_rfl) (zN (by kernel_rfl) (zN (by kernel_rfl) (zN (by kernel_rfl) (zN (by kernel_rfl) (zN (by kernel_rfl) (zN (by kernel_rfl) (zN (by kernel_rfl) (xG (by kernel_rfl) (xB ?_))))))))))))))))))))))))))))))))))))))))))))))))))))))))
     intro w36 hB37
     replace hb := hb.trans (hB37.mono hs)
     replace hs := Nat.le_trans hs (hB37.size)
     replace o_cb17 := zB o_cb17 hB37
     replace o_cb18 := zB o_cb18 hB37
     replace o_cb19 := zB o_cb19 hB37
     replace o_cb20 := zB o_cb20 hB37
     replace r_q10 := r_q10.below hB37
     replace r_q11 := r_q11.below hB37
     replace r_q12 := r_q12.below hB37
     replace r_q13 := r_q13.below hB37
     replace r_q21 := r_q21.below hB37
     refine zA (zV (by kernel_rfl) (zF (zD (zL (zE (zA (yA (zM (zX (zM (zM (zX (zM ?_)))))))))))))
     refine zR [.tmp 2] [(.bool false)] rfl hds ⟨by kernel_rfl, trivial⟩ ?_
     have e0 : false = true := by (exfalso; omega)
     exact ⟨congrArg Value.bool e0, hb⟩
    ·intro h38
     replace h38 : x29.1 = at_ := by omega
     refine yG (zW (by kernel_rfl) (yG (zW (by kernel_rfl) (yG (zW (by kernel_rfl) ?_)))))
     have hz := (r_q21.rd).at (k := 3) (fun _ => rfl) hx30
     obtain ⟨g41, off42, hl43, hc44⟩ := hz
     refine xS (k := .i64) q21 i _ g41 off42 el29 hl43 (by first | omega | assumption | (simp; done)) (by kernel_rfl) (by kernel_rfl) (zW (by kernel_rfl) (yK (.pointer (some ⟨g41, (off42 + i * 3), none⟩)) (fun _ => by kernel_rfl) (zW (by kernel_rfl) (yK (.pointer (some ⟨g41, ((off42 + i * 3) + 1), none⟩)) (fun _ => by kernel_rfl) (zW (by kernel_rfl) (yN g41 ((off42 + i * 3) + 1) (.int .i32 x29.2.1) (by kernel_rfl) (fun _ => by kernel_rfl) (hc44 1 _ rfl) (zW (by kernel_rfl) (yG (zW (by kernel_rfl) (yG (zW (by kernel_rfl) ?_)))))))))))
     have hz := (r_q21.rd).at (k := 3) (fun _ => rfl) hx30
     obtain ⟨g47, off48, hl49, hc50⟩ := hz
     refine xS (k := .i64) q21 i _ g47 off48 el29 hl49 (by first | omega | assumption | (simp; done)) (by kernel_rfl) (by kernel_rfl) (zW (by kernel_rfl) (yK (.pointer (some ⟨g47, (off48 + i * 3), none⟩)) (fun _ => by kernel_rfl) (zW (by kernel_rfl) (yK (.pointer (some ⟨g47, (off48 + i * 3), none⟩)) (fun _ => by kernel_rfl) (zW (by kernel_rfl) (yN g47 (off48 + i * 3) (.int .i32 x29.1) (by kernel_rfl) (fun _ => by kernel_rfl) (hc50 0 _ rfl) (zW (by kernel_rfl) (Lq_cmp .i32 x29.2.1 x29.1 (x29.2.1 < x29.1) rfl (cmp_lt x29.2.1 x29.1) (by kernel_rfl) (by kernel_rfl) ?_ ?_))))))))
     ·intro h51
      replace h51 : x29.2.1 < x29.1 := by omega
      refine Lq_pickF (by kernel_rfl) (yG (zN (by kernel_rfl) (zN (by kernel_rfl) (zN (by kernel_rfl) (zN (by kernel_rfl) (zN (by kernel_rfl) (zN (by kernel_rfl) (zN (by kernel_rfl) (xG (by kernel_rfl) (yG (zN (by kernel_rfl) (zN (by kernel_rfl) (zN (by kernel_rfl) (zN (by kernel_rfl) (zN (by kernel_rfl) (zN (by kernel_rfl) (zN (by kernel_rfl) (zN (by kernel_rfl) (zN (by kernel_rfl) (zN (by kernel_rfl) (zN (by kernel_rfl) (zN (by kernel_rfl) (zN (by kernel_rfl) (zN (by kernel_rfl) (xG (by kernel_rfl) (yG (zN (by kernel_rfl) (zN (by kernel_rfl) (zN (by kernel_rfl) (zN (by kernel_rfl) (zN (by kernel_rfl) (zN (by kernel_rfl) (zN (by kernel_rfl) (zN (by kernel_rfl) (zN (by kernel_rfl) (zN (by kernel_rfl) (zN (by kernel_rfl) (zN (by kernel_rfl) (zN (by kernel_rfl) (zN (by kernel_rfl) (xG (by kernel_rfl) (xB ?_))))))))))))))))))))))))))))))))))))))))))
      intro w52 hB53
      replace hb := hb.trans (hB53.mono hs)
      replace hs := Nat.le_trans hs (hB53.size)
      replace o_cb17 := zB o_cb17 hB53
      replace o_cb18 := zB o_cb18 hB53
      replace o_cb19 := zB o_cb19 hB53
      replace o_cb20 := zB o_cb20 hB53
      replace r_q10 := r_q10.below hB53
      replace r_q11 := r_q11.below hB53
      replace r_q12 := r_q12.below hB53
      replace r_q13 := r_q13.below hB53
      replace r_q21 := r_q21.below hB53
      refine zA (zV (by kernel_rfl) (zF (zD (zL (zE (zA (yA (zM (zX (zM (zM (zX (zM ?_)))))))))))))
      refine zR [.tmp 2] [(.bool false)] rfl hds ⟨by kernel_rfl, trivial⟩ ?_
      have e0 : false = true := by (exfalso; omega)
      exact ⟨congrArg Value.bool e0, hb⟩
     ·intro h54
      replace h54 : x29.1 ≤ x29.2.1 := by omega
      refine Lq_pickF (by kernel_rfl) (yG (zW (by kernel_rfl) (yG (zW (by kernel_rfl) (yG (zW (by kernel_rfl) ?_))))))
      have hz := (r_q21.rd).at (k := 3) (fun _ => rfl) hx30
      obtain ⟨g57, off58, hl59, hc60⟩ := hz
      refine xS (k := .i64) q21 i _ g57 off58 el29 hl59 (by first | omega | assumption | (simp; done)) (by kernel_rfl) (by kernel_rfl) (zW (by kernel_rfl) (yK (.pointer (some ⟨g57, ((off58 + i * 3) + 2), none⟩)) (fun _ => by kernel_rfl) (zW (by kernel_rfl) (yN g57 ((off58 + i * 3) + 2) (.int .u8 x29.2.2) (by kernel_rfl) (fun _ => by kernel_rfl) (hc60 2 _ rfl) (zW (by kernel_rfl) (yG (zW (by kernel_rfl) (Lq_cmp .u8 x29.2.2 last (x29.2.2 = last) rfl (yW x29.2.2 last) (by kernel_rfl) (by kernel_rfl) ?_ ?_))))))))
      ·intro h61
       replace h61 : x29.2.2 = last := by omega
       refine Lq_pickF (by kernel_rfl) (yG (zN (by kernel_rfl) (zN (by kernel_rfl) (zN (by kernel_rfl) (zN (by kernel_rfl) (zN (by kernel_rfl) (zN (by kernel_rfl) (zN (by kernel_rfl) (zN (by kernel_rfl) (zN (by kernel_rfl) (zN (by kernel_rfl) (zN (by kernel_rfl) (zN (by kernel_rfl) (zN (by kernel_rfl) (zN (by kernel_rfl) (xG (by kernel_rfl) (yG (zN (by kernel_rfl) (zN (by kernel_rfl) (zN (by kernel_rfl) (zN (by kernel_rfl) (zN (by kernel_rfl) (zN (by kernel_rfl) (zN (by kernel_rfl) (zN (by kernel_rfl) (zN (by kernel_rfl) (zN (by kernel_rfl) (zN (by kernel_rfl) (zN (by kernel_rfl) (zN (by kernel_rfl) (zN (by kernel_rfl) (xG (by kernel_rfl) (xB ?_)))))))))))))))))))))))))))))))))
       intro w62 hB63
       replace hb := hb.trans (hB63.mono hs)
       replace hs := Nat.le_trans hs (hB63.size)
       replace o_cb17 := zB o_cb17 hB63
       replace o_cb18 := zB o_cb18 hB63
       replace o_cb19 := zB o_cb19 hB63
       replace o_cb20 := zB o_cb20 hB63
       replace r_q10 := r_q10.below hB63
       replace r_q11 := r_q11.below hB63
       replace r_q12 := r_q12.below hB63
       replace r_q13 := r_q13.below hB63
       replace r_q21 := r_q21.below hB63
       refine zA (zV (by kernel_rfl) (zF (zD (zL (zE (zA (yA (zM (zX (zM (zM (zX (zM ?_)))))))))))))
       refine zR [.tmp 2] [(.bool false)] rfl hds ⟨by kernel_rfl, trivial⟩ ?_
       have e0 : false = true := by (exfalso; omega)
       exact ⟨congrArg Value.bool e0, hb⟩
      ·intro h64
       replace h64 : x29.2.2 ≠ last := by omega
       refine Lq_pickF (by kernel_rfl) (yG (zW (by kernel_rfl) (yG (zW (by kernel_rfl) (yG (zW (by kernel_rfl) (yG (zW (by kernel_rfl) ?_))))))))
       have hz := (r_q21.rd).at (k := 3) (fun _ => rfl) hx30
       obtain ⟨g67, off68, hl69, hc70⟩ := hz
       refine xS (k := .i64) q21 i _ g67 off68 el29 hl69 (by first | omega | assumption | (simp; done)) (by kernel_rfl) (by kernel_rfl) (zW (by kernel_rfl) (yK (.pointer (some ⟨g67, (off68 + i * 3), none⟩)) (fun _ => by kernel_rfl) (zW (by kernel_rfl) (yK (.pointer (some ⟨g67, (off68 + i * 3), none⟩)) (fun _ => by kernel_rfl) (zW (by kernel_rfl) (yN g67 (off68 + i * 3) (.int .i32 x29.1) (by kernel_rfl) (fun _ => by kernel_rfl) (hc70 0 _ rfl) (zW (by kernel_rfl) (Lq_call 12 [(.pointer (some ⟨cb17, 0, none⟩)), (.int .i32 x29.1)] (.int .u8 ((atM 0 (wholeF (clsF s).1) (plainF x29.1)).1)) (fun _ _ => by kernel_rfl) (fun wq hbq => c_tClass cb17 cb18 cb19 q10 cb20 x29.1 q13 (wholeF (clsF s).1) wq (zB o_cb17 hbq) (zB o_cb20 hbq) (r_q13.rd.below hbq) (by exact (whole_ok _).rise)) (zW (by kernel_rfl) (yG (zW (by kernel_rfl) (yG (zW (by kernel_rfl) ?_)))))))))))))
       have hz := (r_q21.rd).at (k := 3) (fun _ => rfl) hx30
       obtain ⟨g73, off74, hl75, hc76⟩ := hz
       refine xS (k := .i64) q21 i _ g73 off74 el29 hl75 (by first | omega | assumption | (simp; done)) (by kernel_rfl) (by kernel_rfl) (zW (by kernel_rfl) (yK (.pointer (some ⟨g73, ((off74 + i * 3) + 2), none⟩)) (fun _ => by kernel_rfl) (zW (by kernel_rfl) (yN g73 ((off74 + i * 3) + 2) (.int .u8 x29.2.2) (by kernel_rfl) (fun _ => by kernel_rfl) (hc76 2 _ rfl) (zW (by kernel_rfl) (Lq_cmp .u8 ((atM 0 (wholeF (clsF s).1) (plainF x29.1)).1) x29.2.2 ((atM 0 (wholeF (clsF s).1) (plainF x29.1)).1 ≠ x29.2.2) rfl (cmp_ne ((atM 0 (wholeF (clsF s).1) (plainF x29.1)).1) x29.2.2) (by kernel_rfl) (by kernel_rfl) ?_ ?_))))))
       ·intro h77
        replace h77 : (atM 0 (wholeF (clsF s).1) (plainF x29.1)).1 ≠ x29.2.2 := by omega
        exfalso; first | exact h77 (by assumption) | (exfalso; simp_all; done)
       ·intro h78
        replace h78 : (atM 0 (wholeF (clsF s).1) (plainF x29.1)).1 = x29.2.2 := by omega
        refine Lq_pickF (by kernel_rfl) (yG (zW (by kernel_rfl) (yG (zW (by kernel_rfl) (yG (zW (by kernel_rfl) (yG (zW (by kernel_rfl) ?_))))))))
        have hz := (r_q21.rd).at (k := 3) (fun _ => rfl) hx30
        obtain ⟨g81, off82, hl83, hc84⟩ := hz
        refine xS (k := .i64) q21 i _ g81 off82 el29 hl83 (by first | omega | assumption | (simp; done)) (by kernel_rfl) (by kernel_rfl) (zW (by kernel_rfl) (yK (.pointer (some ⟨g81, (off82 + i * 3), none⟩)) (fun _ => by kernel_rfl) (zW (by kernel_rfl) (yK (.pointer (some ⟨g81, ((off82 + i * 3) + 1), none⟩)) (fun _ => by kernel_rfl) (zW (by kernel_rfl) (yN g81 ((off82 + i * 3) + 1) (.int .i32 x29.2.1) (by kernel_rfl) (fun _ => by kernel_rfl) (hc84 1 _ rfl) (zW (by kernel_rfl) (Lq_call 12 [(.pointer (some ⟨cb17, 0, none⟩)), (.int .i32 x29.2.1)] (.int .u8 ((atM 0 (wholeF (clsF s).1) (plainF x29.2.1)).1)) (fun _ _ => by kernel_rfl) (fun wq hbq => c_tClass cb17 cb18 cb19 q10 cb20 x29.2.1 q13 (wholeF (clsF s).1) wq (zB o_cb17 hbq) (zB o_cb20 hbq) (r_q13.rd.below hbq) (by exact (whole_ok _).rise)) (zW (by kernel_rfl) (yG (zW (by kernel_rfl) (yG (zW (by kernel_rfl) ?_)))))))))))))
        have hz := (r_q21.rd).at (k := 3) (fun _ => rfl) hx30
        obtain ⟨g87, off88, hl89, hc90⟩ := hz
        refine xS (k := .i64) q21 i _ g87 off88 el29 hl89 (by first | omega | assumption | (simp; done)) (by kernel_rfl) (by kernel_rfl) (zW (by kernel_rfl) (yK (.pointer (some ⟨g87, ((off88 + i * 3) + 2), none⟩)) (fun _ => by kernel_rfl) (zW (by kernel_rfl) (yN g87 ((off88 + i * 3) + 2) (.int .u8 x29.2.2) (by kernel_rfl) (fun _ => by kernel_rfl) (hc90 2 _ rfl) (zW (by kernel_rfl) (Lq_cmp .u8 ((atM 0 (wholeF (clsF s).1) (plainF x29.2.1)).1) x29.2.2 ((atM 0 (wholeF (clsF s).1) (plainF x29.2.1)).1 ≠ x29.2.2) rfl (cmp_ne ((atM 0 (wholeF (clsF s).1) (plainF x29.2.1)).1) x29.2.2) (by kernel_rfl) (by kernel_rfl) ?_ ?_))))))
        ·intro h91
         replace h91 : (atM 0 (wholeF (clsF s).1) (plainF x29.2.1)).1 ≠ x29.2.2 := by omega
         exfalso; first | exact h91 (by assumption) | (exfalso; simp_all; done)
        ·intro h92
         replace h92 : (atM 0 (wholeF (clsF s).1) (plainF x29.2.1)).1 = x29.2.2 := by omega
         refine Lq_pickF (by kernel_rfl) (xB ?_)
         intro w93 hB94
         replace hb := hb.trans (hB94.mono hs)
         replace hs := Nat.le_trans hs (hB94.size)
         replace o_cb17 := zB o_cb17 hB94
         replace o_cb18 := zB o_cb18 hB94
         replace o_cb19 := zB o_cb19 hB94
         replace o_cb20 := zB o_cb20 hB94
         replace r_q10 := r_q10.below hB94
         replace r_q11 := r_q11.below hB94
         replace r_q12 := r_q12.below hB94
         replace r_q13 := r_q13.below hB94
         replace r_q21 := r_q21.below hB94
         refine zA (zQ (by kernel_rfl) (zY (zA (zF (zD (zJ (zJ ?_)))))))
         have hz := (r_q21.rd).at (k := 3) (fun _ => rfl) hx30
         obtain ⟨g97, off98, hl99, hc100⟩ := hz
         refine xO (k := .i64) q21 i _ g97 off98 el29 hl99 (by first | omega | assumption | (simp; done)) (by kernel_rfl) (by kernel_rfl) (zT (.pointer (some ⟨g97, ((off98 + i * 3) + 2), none⟩)) (by kernel_rfl) (by kernel_rfl) (yC g97 ((off98 + i * 3) + 2) (.int .u8 x29.2.2) (by kernel_rfl) (by kernel_rfl) (hc100 2 _ rfl) (zL (zE (zA (zD (zJ (zJ ?_))))))))
         have hz := (r_q21.rd).at (k := 3) (fun _ => rfl) hx30
         obtain ⟨g103, off104, hl105, hc106⟩ := hz
         refine xO (k := .i64) q21 i _ g103 off104 el29 hl105 (by first | omega | assumption | (simp; done)) (by kernel_rfl) (by kernel_rfl) (zT (.pointer (some ⟨g103, (off104 + i * 3), none⟩)) (by kernel_rfl) (by kernel_rfl) (zT (.pointer (some ⟨g103, ((off104 + i * 3) + 1), none⟩)) (by kernel_rfl) (by kernel_rfl) (yC g103 ((off104 + i * 3) + 1) (.int .i32 x29.2.1) (by kernel_rfl) (by kernel_rfl) (hc106 1 _ rfl) (xU x29.2.1 1 (x29.2.1 + 1) rfl (by kernel_rfl) (by kernel_rfl) (wrap_i32 _ (by simp only [arithZ]; omega) (by simp only [arithZ]; omega)) (zL (zE (zS (zA (zD (zJ (xH i 1 (by omega) (by kernel_rfl) (by kernel_rfl) (zL (zE ?_)))))))))))))
         refine zA ⟨_, ?_, (i + 1), (x29.2.1 + 1), x29.2.2, rfl, hds, by kernel_rfl, by kernel_rfl, by kernel_rfl, by kernel_rfl, by kernel_rfl, r_q10, r_q11, r_q12, r_q13, r_q21, o_cb17, o_cb18, o_cb19, o_cb20, hb, hs, ?_, ?_⟩
         ·omega
         ·omega
         ·first | exact (wA i1 (by assumption)).2.2.2.2.2.2
   ·intro h107
    replace h107 : ((fewC (wholeF (clsF s).1) (-1))).length ≤ i := by omega
    refine zE (zA (zQ (by kernel_rfl) (W_exit (yQ (yQ (xT (zA (zF (zD (zJ (yD 11 [(.pointer (some ⟨cb17, 0, none⟩)), (.bool false), (.int .i64 (-1))] (by kernel_rfl) (by kernel_rfl) (c_toldN cb17 cb18 cb19 q10 cb20 (-1) q11 ((clsF s).1.1) _ o_cb17 o_cb18 r_q11.rd (by omega)) ?_)))))))))))
    rintro q108 w109 ⟨_, rfl, r_q108, hB110⟩
    have ap_r_q108_r_q21 := ap_call r_q108 r_q21; have ap_r_q21_r_q108 := yO ap_r_q108_r_q21
    replace r_q108 := r_q108.base hs
    replace hb := hb.trans (hB110.mono hs)
    replace hs := Nat.le_trans hs (hB110.size)
    replace o_cb17 := zB o_cb17 hB110
    replace o_cb18 := zB o_cb18 hB110
    replace o_cb19 := zB o_cb19 hB110
    replace o_cb20 := zB o_cb20 hB110
    replace r_q10 := r_q10.below hB110
    replace r_q11 := r_q11.below hB110
    replace r_q12 := r_q12.below hB110
    replace r_q13 := r_q13.below hB110
    replace r_q21 := r_q21.below hB110
    refine zL (zE (zA (zF (zF (zD (zL (zE (zA (yU ?_)))))))))
    refine W_loop (fun m s0 w0 => ∃ (i : Nat), (m = (fewC (clsF s).1.1 (-1)).length - i) ∧ (s0.ds = []) ∧ (s0.f 3 = (.pointer (some ⟨cb17, 0, none⟩))) ∧ (s0.f 5 = (.int .i32 at_)) ∧ (s0.f 9 = q108) ∧ (s0.f 10 = (.int .i64 ((i : Nat) : Int))) ∧ (Row w0 w.heap.size 45 3 encSpanC q10 ((clsF s).1.2.2)) ∧ (Row w0 w.heap.size 126 3 encSpanC q11 ((clsF s).1.1)) ∧ (Row w0 w.heap.size 131 3 encSpanI q12 ((clsF s).1.2.1)) ∧ (Row w0 w.heap.size 126 3 encSpanC q13 (wholeF (clsF s).1)) ∧ (Row w0 w.heap.size 34 3 encSpanC q21 (fewC (wholeF (clsF s).1) (-1))) ∧ (Row w0 w.heap.size 34 3 encSpanC q108 (fewC ((clsF s).1.1) (-1))) ∧ (w0.heap[cb17]? = some (.cells [(.pointer (some ⟨cb18, 0, none⟩)), (.pointer (some ⟨cb19, 0, none⟩)), q10, (.pointer (some ⟨cb20, 0, none⟩))].toArray 66 (0, 0))) ∧ (w0.heap[cb18]? = some (.cells [q11, (.bool true)].toArray 115 (0, 0))) ∧ (w0.heap[cb19]? = some (.cells [q12, (.bool true)].toArray 118 (0, 0))) ∧ (w0.heap[cb20]? = some (.cells [q13, (.bool true)].toArray 115 (0, 0))) ∧ (Below w.heap.size w w0) ∧ (w.heap.size ≤ w0.heap.size) ∧ (i ≤ (fewC (clsF s).1.1 (-1)).length)) _ ⟨0, rfl, hds, by kernel_rfl, by kernel_rfl, by kernel_rfl, by kernel_rfl, r_q10, r_q11, r_q12, r_q13, r_q21, r_q108, o_cb17, o_cb18, o_cb19, o_cb20, hb, hs, (Nat.zero_le _)⟩ ?_
    rintro m112 s113 w114 ⟨i, hm, hds, f_3, f_5, f_9, f_10, r_q10, r_q11, r_q12, r_q13, r_q21, r_q108, o_cb17, o_cb18, o_cb19, o_cb20, hb, hs, j1⟩
    refine yL 3 _ f_3 (yL 5 _ f_5 (yL 9 _ f_9 (yL 10 _ f_10 ?_)))
    clear f_3 f_5 f_9 f_10
    refine zF (zF (zD (zJ (zJ (L_len 29 34 ((fewC ((clsF s).1.1) (-1))).length q108 rfl Tryz.underlying29 (r_q108.rd).len (by kernel_rfl) (yE .i64 ((i : Nat) : Int) ((((fewC ((clsF s).1.1) (-1))).length : Nat) : Int) (i < ((fewC ((clsF s).1.1) (-1))).length) rfl (cmpN_lt i (((fewC ((clsF s).1.1) (-1))).length)) (by kernel_rfl) (by kernel_rfl) ?_ ?_))))))
    ·intro h115
     replace h115 : i < ((fewC ((clsF s).1.1) (-1))).length := by omega
     refine zE (zA (zV (by kernel_rfl) (zY (zA (zF (yU (zF (zD (zJ (zJ (zJ ?_)))))))))))
     have hz := xD (fewC ((clsF s).1.1) (-1)) i (by first | omega | assumption | (simp; done)); obtain ⟨x116, hx117⟩ := hz
     have hz := (r_q108.rd).at (k := 3) (fun _ => rfl) hx117
     obtain ⟨g118, off119, hl120, hc121⟩ := hz
     have hn_x116 := nA hx117
     have hn1_x116 := hn_x116.1
     have hn2_x116 := hn_x116.2.1
     have hn3_x116 := hn_x116.2.2.1
     have hn4_x116 := hn_x116.2.2.2
     refine xO (k := .i64) q108 i _ g118 off119 el29 hl120 (by first | omega | assumption | (simp; done)) (by kernel_rfl) (by kernel_rfl) (zT (.pointer (some ⟨g118, (off119 + i * 3), none⟩)) (by kernel_rfl) (by kernel_rfl) (zT (.pointer (some ⟨g118, (off119 + i * 3), none⟩)) (by kernel_rfl) (by kernel_rfl) (yC g118 (off119 + i * 3) (.int .i32 x116.1) (by kernel_rfl) (by kernel_rfl) (hc121 0 _ rfl) (yD 13 [(.pointer (some ⟨cb17, 0, none⟩)), (.int .i32 x116.1)] (by kernel_rfl) (by kernel_rfl) (c_tGiven cb17 cb18 cb19 q10 cb20 x116.1 q11 ((clsF s).1.1) _ o_cb17 o_cb18 r_q11.rd (by exact (cls_ok _).1.rise)) ?_))))
     rintro _ w122 ⟨rfl, hB123⟩
     replace hb := hb.trans (hB123.mono hs)
     replace hs := Nat.le_trans hs (hB123.size)
     replace o_cb17 := zB o_cb17 hB123
     replace o_cb18 := zB o_cb18 hB123
     replace o_cb19 := zB o_cb19 hB123
     replace o_cb20 := zB o_cb20 hB123
     replace r_q10 := r_q10.below hB123
     replace r_q11 := r_q11.below hB123
     replace r_q12 := r_q12.below hB123
     replace r_q13 := r_q13.below hB123
     replace r_q21 := r_q21.below hB123
     replace r_q108 := r_q108.below hB123
     refine zJ (zT (.int .u8 ((atM 0 ((clsF s).1.1) (plainF x116.1)).1)) (by kernel_rfl) (by kernel_rfl) (zT (.bool ((atM 0 ((clsF s).1.1) (plainF x116.1)).2)) (by kernel_rfl) (by kernel_rfl) (xK ((atM 0 ((clsF s).1.1) (plainF x116.1)).2) ?_ ?_)))
     ·intro h125
      refine zL (zL (zE (zA (zF (zD (zJ (zJ (zJ ?_))))))))
      have hz := (r_q108.rd).at (k := 3) (fun _ => rfl) hx117
      obtain ⟨g128, off129, hl130, hc131⟩ := hz
      refine xO (k := .i64) q108 i _ g128 off129 el29 hl130 (by first | omega | assumption | (simp; done)) (by kernel_rfl) (by kernel_rfl) (zT (.pointer (some ⟨g128, (off129 + i * 3), none⟩)) (by kernel_rfl) (by kernel_rfl) (zT (.pointer (some ⟨g128, ((off129 + i * 3) + 1), none⟩)) (by kernel_rfl) (by kernel_rfl) (yC g128 ((off129 + i * 3) + 1) (.int .i32 x116.2.1) (by kernel_rfl) (by kernel_rfl) (hc131 1 _ rfl) (yD 13 [(.pointer (some ⟨cb17, 0, none⟩)), (.int .i32 x116.2.1)] (by kernel_rfl) (by kernel_rfl) (c_tGiven cb17 cb18 cb19 q10 cb20 x116.2.1 q11 ((clsF s).1.1) _ o_cb17 o_cb18 r_q11.rd (by exact (cls_ok _).1.rise)) ?_))))
      rintro _ w132 ⟨rfl, hB133⟩
      replace hb := hb.trans (hB133.mono hs)
      replace hs := Nat.le_trans hs (hB133.size)
      replace o_cb17 := zB o_cb17 hB133
      replace o_cb18 := zB o_cb18 hB133
      replace o_cb19 := zB o_cb19 hB133
      replace o_cb20 := zB o_cb20 hB133
      replace r_q10 := r_q10.below hB133
      replace r_q11 := r_q11.below hB133
      replace r_q12 := r_q12.below hB133
      replace r_q13 := r_q13.below hB133
      replace r_q21 := r_q21.below hB133
      replace r_q108 := r_q108.below hB133
      refine zJ (zT (.int .u8 ((atM 0 ((clsF s).1.1) (plainF x116.2.1)).1)) (by kernel_rfl) (by kernel_rfl) (zT (.bool ((atM 0 ((clsF s).1.1) (plainF x116.2.1)).2)) (by kernel_rfl) (by kernel_rfl) (xK ((atM 0 ((clsF s).1.1) (plainF x116.2.1)).2) ?_ ?_)))
      ·intro h135
       refine zL (zL (zE (zA (zF (zD (zJ (L_not true (by kernel_rfl) (zJ (zZ (by kernel_rfl) (zJ (zZ (by kernel_rfl) (L_not true (by kernel_rfl) (yR (by kernel_rfl) (zJ (zZ (by kernel_rfl) (zJ (zZ (by kernel_rfl) (zJ (zZ (by kernel_rfl) (zJ (zZ (by kernel_rfl) ?_)))))))))))))))))))))
       have hz := (r_q108.rd).at (k := 3) (fun _ => rfl) hx117
       obtain ⟨g138, off139, hl140, hc141⟩ := hz
       refine xO (k := .i64) q108 i _ g138 off139 el29 hl140 (by first | omega | assumption | (simp; done)) (by kernel_rfl) (by kernel_rfl) (zZ (by kernel_rfl) (zT (.pointer (some ⟨g138, ((off139 + i * 3) + 2), none⟩)) (by kernel_rfl) (by kernel_rfl) (zZ (by kernel_rfl) (yC g138 ((off139 + i * 3) + 2) (.int .u8 x116.2.2) (by kernel_rfl) (by kernel_rfl) (hc141 2 _ rfl) (zZ (by kernel_rfl) (yE .u8 ((atM 0 ((clsF s).1.1) (plainF x116.1)).1) x116.2.2 ((atM 0 ((clsF s).1.1) (plainF x116.1)).1 ≠ x116.2.2) rfl (cmp_ne ((atM 0 ((clsF s).1.1) (plainF x116.1)).1) x116.2.2) (by kernel_rfl) (by kernel_rfl) ?_ ?_))))))
       ·intro h142
        replace h142 : (atM 0 ((clsF s).1.1) (plainF x116.1)).1 ≠ x116.2.2 := by omega
        exfalso; first | exact h142 (by assumption) | (exfalso; simp_all; done)
       ·intro h143
        replace h143 : (atM 0 ((clsF s).1.1) (plainF x116.1)).1 = x116.2.2 := by omega
        refine yR (by kernel_rfl) (zJ (zZ (by kernel_rfl) (zJ (zZ (by kernel_rfl) (zJ (zZ (by kernel_rfl) (yE .u8 ((atM 0 ((clsF s).1.1) (plainF x116.2.1)).1) ((atM 0 ((clsF s).1.1) (plainF x116.1)).1) ((atM 0 ((clsF s).1.1) (plainF x116.2.1)).1 ≠ (atM 0 ((clsF s).1.1) (plainF x116.1)).1) rfl (cmp_ne ((atM 0 ((clsF s).1.1) (plainF x116.2.1)).1) ((atM 0 ((clsF s).1.1) (plainF x116.1)).1)) (by kernel_rfl) (by kernel_rfl) ?_ ?_)))))))
        ·intro h144
         replace h144 : (atM 0 ((clsF s).1.1) (plainF x116.2.1)).1 ≠ (atM 0 ((clsF s).1.1) (plainF x116.1)).1 := by omega
         exfalso; first | exact h144 (by assumption) | (exfalso; simp_all; done)
        ·intro h145
         replace h145 : (atM 0 ((clsF s).1.1) (plainF x116.2.1)).1 = (atM 0 ((clsF s).1.1) (plainF x116.1)).1 := by omega
         refine yR (by kernel_rfl) (zJ (zZ (by kernel_rfl) (zJ (zZ (by kernel_rfl) (zJ (zZ (by kernel_rfl) (zJ (zZ (by kernel_rfl) ?_))))))))
         have hz := (r_q108.rd).at (k := 3) (fun _ => rfl) hx117
         obtain ⟨g148, off149, hl150, hc151⟩ := hz
         refine xO (k := .i64) q108 i _ g148 off149 el29 hl150 (by first | omega | assumption | (simp; done)) (by kernel_rfl) (by kernel_rfl) (zZ (by kernel_rfl) (zT (.pointer (some ⟨g148, (off149 + i * 3), none⟩)) (by kernel_rfl) (by kernel_rfl) (zZ (by kernel_rfl) (zT (.pointer (some ⟨g148, (off149 + i * 3), none⟩)) (by kernel_rfl) (by kernel_rfl) (zZ (by kernel_rfl) (yC g148 (off149 + i * 3) (.int .i32 x116.1) (by kernel_rfl) (by kernel_rfl) (hc151 0 _ rfl) (zZ (by kernel_rfl) (yD 12 [(.pointer (some ⟨cb17, 0, none⟩)), (.int .i32 x116.1)] (by kernel_rfl) (by kernel_rfl) (c_tClass cb17 cb18 cb19 q10 cb20 x116.1 q13 (wholeF (clsF s).1) _ o_cb17 o_cb20 r_q13.rd (by exact (whole_ok _).rise)) ?_))))))))
         rintro _ w152 ⟨rfl, hB153⟩
         replace hb := hb.trans (hB153.mono hs)
         replace hs := Nat.le_trans hs (hB153.size)
         replace o_cb17 := zB o_cb17 hB153
         replace o_cb18 := zB o_cb18 hB153
         replace o_cb19 := zB o_cb19 hB153
         replace o_cb20 := zB o_cb20 hB153
         replace r_q10 := r_q10.below hB153
         replace r_q11 := r_q11.below hB153
         replace r_q12 := r_q12.below hB153
         replace r_q13 := r_q13.below hB153
         replace r_q21 := r_q21.below hB153
         replace r_q108 := r_q108.below hB153
         refine zZ (by kernel_rfl) (zJ (zZ (by kernel_rfl) (yE .u8 ((atM 0 (wholeF (clsF s).1) (plainF x116.1)).1) ((atM 0 ((clsF s).1.1) (plainF x116.1)).1) ((atM 0 (wholeF (clsF s).1) (plainF x116.1)).1 ≠ (atM 0 ((clsF s).1.1) (plainF x116.1)).1) rfl (cmp_ne ((atM 0 (wholeF (clsF s).1) (plainF x116.1)).1) ((atM 0 ((clsF s).1.1) (plainF x116.1)).1)) (by kernel_rfl) (by kernel_rfl) ?_ ?_)))
         ·intro h155
          replace h155 : (atM 0 (wholeF (clsF s).1) (plainF x116.1)).1 ≠ (atM 0 ((clsF s).1.1) (plainF x116.1)).1 := by omega
          exfalso; first | exact h155 (by assumption) | (exfalso; simp_all; done)
         ·intro h156
          replace h156 : (atM 0 (wholeF (clsF s).1) (plainF x116.1)).1 = (atM 0 ((clsF s).1.1) (plainF x116.1)).1 := by omega
          refine yR (by kernel_rfl) (zJ (zZ (by kernel_rfl) (zJ (zZ (by kernel_rfl) (zJ (zZ (by kernel_rfl) (zJ (zZ (by kernel_rfl) ?_))))))))
          have hz := (r_q108.rd).at (k := 3) (fun _ => rfl) hx117
          obtain ⟨g159, off160, hl161, hc162⟩ := hz
          refine xO (k := .i64) q108 i _ g159 off160 el29 hl161 (by first | omega | assumption | (simp; done)) (by kernel_rfl) (by kernel_rfl) (zZ (by kernel_rfl) (zT (.pointer (some ⟨g159, (off160 + i * 3), none⟩)) (by kernel_rfl) (by kernel_rfl) (zZ (by kernel_rfl) (zT (.pointer (some ⟨g159, ((off160 + i * 3) + 1), none⟩)) (by kernel_rfl) (by kernel_rfl) (zZ (by kernel_rfl) (yC g159 ((off160 + i * 3) + 1) (.int .i32 x116.2.1) (by kernel_rfl) (by kernel_rfl) (hc162 1 _ rfl) (zZ (by kernel_rfl) (yD 14 [(.pointer (some ⟨cb17, 0, none⟩)), (.int .i32 x116.2.1)] (by kernel_rfl) (by kernel_rfl) (c_tLine cb17 cb18 cb19 q10 cb20 x116.2.1 q12 ((clsF s).1.2.1) _ o_cb17 o_cb19 r_q12.rd (by exact (cls_ok _).2.1.rise)) ?_))))))))
          rintro _ w163 ⟨rfl, hB164⟩
          replace hb := hb.trans (hB164.mono hs)
          replace hs := Nat.le_trans hs (hB164.size)
          replace o_cb17 := zB o_cb17 hB164
          replace o_cb18 := zB o_cb18 hB164
          replace o_cb19 := zB o_cb19 hB164
          replace o_cb20 := zB o_cb20 hB164
          replace r_q10 := r_q10.below hB164
          replace r_q11 := r_q11.below hB164
          replace r_q12 := r_q12.below hB164
          replace r_q13 := r_q13.below hB164
          replace r_q21 := r_q21.below hB164
          replace r_q108 := r_q108.below hB164
          refine zZ (by kernel_rfl) (yE .i64 ((atM 0 ((clsF s).1.2.1) (plainF x116.2.1)).1) 1 ((atM 0 ((clsF s).1.2.1) (plainF x116.2.1)).1 < 1) rfl (cmp_lt ((atM 0 ((clsF s).1.2.1) (plainF x116.2.1)).1) 1) (by kernel_rfl) (by kernel_rfl) ?_ ?_)
          ·intro h166
           replace h166 : (atM 0 ((clsF s).1.2.1) (plainF x116.2.1)).1 < 1 := by omega
           refine yR (by kernel_rfl) (zE (zA (zV (by kernel_rfl) (zF (zD (zL (zE (zA (yA (zX (zM (zM (zX (zM ?_))))))))))))))
           refine zR [.tmp 2] [(.bool false)] rfl hds ⟨by kernel_rfl, trivial⟩ ?_
           have e0 : false = true := by (exfalso; omega)
           exact ⟨congrArg Value.bool e0, hb⟩
          ·intro h167
           replace h167 : 1 ≤ (atM 0 ((clsF s).1.2.1) (plainF x116.2.1)).1 := by omega
           refine yR (by kernel_rfl) (zE (zA (zQ (by kernel_rfl) (zY (zS (zA (zD (zJ (xH i 1 (by omega) (by kernel_rfl) (by kernel_rfl) (zL (zE ?_)))))))))))
           refine zA ⟨_, ?_, (i + 1), rfl, hds, by kernel_rfl, by kernel_rfl, by kernel_rfl, by kernel_rfl, r_q10, r_q11, r_q12, r_q13, r_q21, r_q108, o_cb17, o_cb18, o_cb19, o_cb20, hb, hs, ?_⟩
           ·omega
           ·omega
      ·intro h168
       exfalso; first | (exfalso; simp_all; done)
     ·intro h169
      exfalso; first | (exfalso; simp_all; done)
    ·intro h170
     replace h170 : ((fewC ((clsF s).1.1) (-1))).length ≤ i := by omega
     refine zE (zA (zQ (by kernel_rfl) (W_exit (yQ (yQ (xT (zA (zF (zD (zJ (yE .i32 at_ 1114112 (at_ = 1114112) rfl (yW at_ 1114112) (by kernel_rfl) (by kernel_rfl) ?_ ?_)))))))))))
     ·intro h171
      replace h171 : at_ = 1114112 := by omega
      refine zL (zE (zA (yA ?_)))
      refine zR [.tmp 2] [(.bool true)] rfl hds ⟨by kernel_rfl, trivial⟩ ?_
      have e0 : true = true := by rfl
      exact ⟨congrArg Value.bool e0, hb⟩
     ·intro h172
      replace h172 : at_ ≠ 1114112 := by omega
      refine zL (zE (zA (yA ?_)))
      refine zR [.tmp 2] [(.bool false)] rfl hds ⟨by kernel_rfl, trivial⟩ ?_
      have e0 : false = true := by exact absurd (wZ i1 (by assumption)) (by assumption)
      exact ⟨congrArg Value.bool e0, hb⟩
  ·skip
   refine yD 10 [(S ([120] : List UInt8)), (S s)] (by kernel_rfl) (by kernel_rfl) (c_classes_Read_bad ([120] : List UInt8) s _ (gcell_below hml hb) (by first | omega | assumption | (simp; done)) (by assumption)) ?_
   rintro _ w173 ⟨cb176, rfl, o_cb176, g_cb176, hB174⟩
   replace g_cb176 := Nat.le_trans hs g_cb176
   replace hb := hb.trans (hB174.mono hs)
   replace hs := Nat.le_trans hs (hB174.size)
   refine zJ (zT (.pointer none) (by kernel_rfl) (by kernel_rfl) (zT (.iface 73 (.pointer (some ⟨cb176, 0, none⟩))) (by kernel_rfl) (by kernel_rfl) (zL (zL (zE (zA (zF (zF (zD (zJ (zT (.bool true) (by kernel_rfl) (by kernel_rfl) (zE (zA (zV (by kernel_rfl) (zF (zD (zJ (zT (.bool true) (by kernel_rfl) (by kernel_rfl) (zL (zE (zA (yA (zM ?_)))))))))))))))))))))))
   refine zR [.tmp 2] [(.bool true)] rfl rfl ⟨by kernel_rfl, trivial⟩ ?_
   have e0 : true = true := by rfl
   exact ⟨congrArg Value.bool e0, hb⟩
end Go.Proofs.YtkclikfejmeblaaGreatDoor
end
