/- Walks, written by my program walk.py out of the specification lawake.py: each theorem says what one function returns and that it leaves memory as it was. -/
import Derived.Test.YtapndpldphflcaaDoorAs
import Derived.Test.YtapndpldphflcaaDoorWllines
import Derived.Test.YtapndpldphflcaaDoorWlscan
import Derived.Test.YtapndpldphflcaaDoorWlread
import Derived.Test.YtapndpldphflcaaDoorFKu
import Derived.Test.YtapndpldphflcaaDoorProg
import Derived.Tactics2
namespace Go.Proofs.YtapndpldphflcaaDoor
open Go Go.RowKit Go.FK
set_option linter.unusedVariables false
set_option linter.unusedSimpArgs false



set_option maxHeartbeats 4000000 in
set_option maxRecDepth 100000 in
theorem c_furrowlaw03_awake (w : World) (hty : w.cell? ⟨0, 0, none⟩ = some (.iface 116 (.agg #[.pointer (some ⟨4, 56, none⟩)]))) :
    Calls Tryd.prog 16 #[] w (Ret fun v w' => v = (.bool true) ∧ Below w.heap.size w w') := by
  refine enter (args := []) Tryd.func16 rfl (by kernel_rfl : _ = 94) (by kernel_rfl) ?_
  have hb := Below.refl w.heap.size w
  have hs : w.heap.size ≤ w.heap.size := Nat.le_refl _
  refine W_seq (W_region (L_as (L_nil (thenQ_normal (W_seq (W_region (L_call 30 [(S ([102] : List UInt8)), (S ([239, 187, 191, 48, 48, 52, 49, 32, 59, 32, 76, 32, 35, 32, 97, 13, 10, 64, 98, 58, 32, 99, 10] : List UInt8))] (by kernel_rfl) (by kernel_rfl) (c_lines_Read_ok ([102] : List UInt8) ([239, 187, 191, 48, 48, 52, 49, 32, 59, 32, 76, 32, 35, 32, 97, 13, 10, 64, 98, 58, 32, 99, 10] : List UInt8) _ (by first | omega | (simp; done)) (by kernel_rfl)) ?_)))))))
  rintro _ w2 ⟨l5, q1, rfl, r_q1, hx6, hB3⟩
  replace r_q1 := r_q1.base hs
  replace hb := hb.trans (hB3.mono hs)
  replace hs := Nat.le_trans hs (hB3.size)
  obtain ⟨va, vb, hlv⟩ := strip_two (hx6.trans (by kernel_rfl : _ = [((1, 1, [], [[48, 48, 52, 49], [76]], [97]) : LineD), ((2, 2, [98], [[99]], []) : LineD)]))
  replace r_q1 := r_q1.cast (hlv.trans (by rfl : _ = ([((1, 1, [], (va, ([[48, 48, 52, 49], [76]] : List (List UInt8))), [97]) : LineV), ((2, 2, [98], (vb, ([[99]] : List (List UInt8))), []) : LineV)] : List LineV)))
  refine L_mv (L_run q1 (by kernel_rfl) (by kernel_rfl) (L_run .nilIface (by kernel_rfl) (by kernel_rfl) (L_as (L_as (L_nil (thenQ_normal (W_seq (W_seq (W_region (L_mv (L_run (.bool false) (by kernel_rfl) (by kernel_rfl) (L_mv (L_want (by kernel_rfl) (L_mv (L_want (by kernel_rfl) (L_len 54 47 (([((1, 1, [], (va, ([[48, 48, 52, 49], [76]] : List (List UInt8))), [97]) : LineV), ((2, 2, [98], (vb, ([[99]] : List (List UInt8))), []) : LineV)] : List LineV)).length q1 rfl Tryd.underlying54 (r_q1.rd).len (by kernel_rfl) (L_want (by kernel_rfl) (L_run (.bool false) (by kernel_rfl) (by kernel_rfl) (L_pickF (by kernel_rfl) (L_mv (L_want (by kernel_rfl) (L_mv (L_want (by kernel_rfl) ?_)))))))))))))))))))))))
  have hx8 : ([((1, 1, [], (va, ([[48, 48, 52, 49], [76]] : List (List UInt8))), [97]) : LineV), ((2, 2, [98], (vb, ([[99]] : List (List UInt8))), []) : LineV)] : List LineV)[0]? = some (((1, 1, [], (va, ([[48, 48, 52, 49], [76]] : List (List UInt8))), [97]) : LineV)) := rfl
  have hz := (r_q1.rd).at (k := 5) (fun _ => rfl) hx8
  obtain ⟨g9, off10, hl11, hc12⟩ := hz
  refine L_ixaddr (k := .i64) q1 0 _ g9 off10 el54 hl11 (by first | omega | (simp; done)) (by kernel_rfl) (by kernel_rfl) (L_want (by kernel_rfl) (L_run (.pointer (some ⟨g9, ((off10 + 0 * 5) + 3), none⟩)) (by kernel_rfl) (by kernel_rfl) (L_want (by kernel_rfl) ?_)))
  have r_in13 : Row w2 w.heap.size 9 1 encStr va ([[48, 48, 52, 49], [76]] : List (List UInt8)) := r_q1.inner (List.mem_of_getElem? hx8)
  refine L_load g9 ((off10 + 0 * 5) + 3) va (by kernel_rfl) (by kernel_rfl) (hc12 3 _ rfl) (L_want (by kernel_rfl) (L_len 40 9 (([[48, 48, 52, 49], [76]] : List (List UInt8))).length va rfl Tryd.underlying40 (r_in13.rd).len (by kernel_rfl) (L_want (by kernel_rfl) (L_run (.bool false) (by kernel_rfl) (by kernel_rfl) (L_pickF (by kernel_rfl) (L_mv (L_want (by kernel_rfl) (L_mv (L_want (by kernel_rfl) ?_)))))))))
  have hz := (r_q1.rd).at (k := 5) (fun _ => rfl) hx8
  obtain ⟨g16, off17, hl18, hc19⟩ := hz
  refine L_ixaddr (k := .i64) q1 0 _ g16 off17 el54 hl18 (by first | omega | (simp; done)) (by kernel_rfl) (by kernel_rfl) (L_want (by kernel_rfl) (L_run (.pointer (some ⟨g16, ((off17 + 0 * 5) + 3), none⟩)) (by kernel_rfl) (by kernel_rfl) (L_want (by kernel_rfl) ?_)))
  have r_in20 : Row w2 w.heap.size 9 1 encStr va ([[48, 48, 52, 49], [76]] : List (List UInt8)) := r_q1.inner (List.mem_of_getElem? hx8)
  refine L_load g16 ((off17 + 0 * 5) + 3) va (by kernel_rfl) (by kernel_rfl) (hc19 3 _ rfl) (L_want (by kernel_rfl) ?_)
  have hx22 : ([[48, 48, 52, 49], [76]] : List (List UInt8))[0]? = some (([48, 48, 52, 49] : List UInt8)) := rfl
  have hz := (r_in20.rd).at (k := 1) (fun _ => rfl) hx22
  obtain ⟨g23, off24, hl25, hc26⟩ := hz
  refine L_ixaddr (k := .i64) va 0 _ g23 off24 el40 hl25 (by first | omega | (simp; done)) (by kernel_rfl) (by kernel_rfl) (L_want (by kernel_rfl) (L_load g23 (off24 + 0 * 1) (S ([48, 48, 52, 49] : List UInt8)) (by kernel_rfl) (by kernel_rfl) (hc26 0 _ rfl) (L_want (by kernel_rfl) (L_sneF ([48, 48, 52, 49] : List UInt8) ([48, 48, 52, 49] : List UInt8) (by rfl) (by kernel_rfl) (by kernel_rfl) (L_pickF (by kernel_rfl) (L_mv (L_want (by kernel_rfl) (L_mv (L_want (by kernel_rfl) ?_)))))))))
  have hz := (r_q1.rd).at (k := 5) (fun _ => rfl) hx8
  obtain ⟨g29, off30, hl31, hc32⟩ := hz
  refine L_ixaddr (k := .i64) q1 0 _ g29 off30 el54 hl31 (by first | omega | (simp; done)) (by kernel_rfl) (by kernel_rfl) (L_want (by kernel_rfl) (L_run (.pointer (some ⟨g29, ((off30 + 0 * 5) + 3), none⟩)) (by kernel_rfl) (by kernel_rfl) (L_want (by kernel_rfl) ?_)))
  have r_in33 : Row w2 w.heap.size 9 1 encStr va ([[48, 48, 52, 49], [76]] : List (List UInt8)) := r_q1.inner (List.mem_of_getElem? hx8)
  refine L_load g29 ((off30 + 0 * 5) + 3) va (by kernel_rfl) (by kernel_rfl) (hc32 3 _ rfl) (L_want (by kernel_rfl) ?_)
  have hx35 : ([[48, 48, 52, 49], [76]] : List (List UInt8))[1]? = some (([76] : List UInt8)) := rfl
  have hz := (r_in33.rd).at (k := 1) (fun _ => rfl) hx35
  obtain ⟨g36, off37, hl38, hc39⟩ := hz
  refine L_ixaddr (k := .i64) va 1 _ g36 off37 el40 hl38 (by first | omega | (simp; done)) (by kernel_rfl) (by kernel_rfl) (L_want (by kernel_rfl) (L_load g36 (off37 + 1 * 1) (S ([76] : List UInt8)) (by kernel_rfl) (by kernel_rfl) (hc39 0 _ rfl) (L_want (by kernel_rfl) (L_sneF ([76] : List UInt8) ([76] : List UInt8) (by rfl) (by kernel_rfl) (by kernel_rfl) (L_pickF (by kernel_rfl) (L_mv (L_want (by kernel_rfl) (L_mv (L_want (by kernel_rfl) ?_)))))))))
  have hz := (r_q1.rd).at (k := 5) (fun _ => rfl) hx8
  obtain ⟨g42, off43, hl44, hc45⟩ := hz
  refine L_ixaddr (k := .i64) q1 0 _ g42 off43 el54 hl44 (by first | omega | (simp; done)) (by kernel_rfl) (by kernel_rfl) (L_want (by kernel_rfl) (L_run (.pointer (some ⟨g42, ((off43 + 0 * 5) + 4), none⟩)) (by kernel_rfl) (by kernel_rfl) (L_want (by kernel_rfl) (L_load g42 ((off43 + 0 * 5) + 4) (S ([97] : List UInt8)) (by kernel_rfl) (by kernel_rfl) (hc45 4 _ rfl) (L_want (by kernel_rfl) (L_sneF ([97] : List UInt8) ([97] : List UInt8) (by rfl) (by kernel_rfl) (by kernel_rfl) (L_pickF (by kernel_rfl) (L_mv (L_want (by kernel_rfl) (L_mv (L_want (by kernel_rfl) ?_)))))))))))
  have hx47 : ([((1, 1, [], (va, ([[48, 48, 52, 49], [76]] : List (List UInt8))), [97]) : LineV), ((2, 2, [98], (vb, ([[99]] : List (List UInt8))), []) : LineV)] : List LineV)[1]? = some (((2, 2, [98], (vb, ([[99]] : List (List UInt8))), []) : LineV)) := rfl
  have hz := (r_q1.rd).at (k := 5) (fun _ => rfl) hx47
  obtain ⟨g48, off49, hl50, hc51⟩ := hz
  refine L_ixaddr (k := .i64) q1 1 _ g48 off49 el54 hl50 (by first | omega | (simp; done)) (by kernel_rfl) (by kernel_rfl) (L_want (by kernel_rfl) (L_run (.pointer (some ⟨g48, (off49 + 1 * 5), none⟩)) (by kernel_rfl) (by kernel_rfl) (L_want (by kernel_rfl) (L_load g48 (off49 + 1 * 5) (.int .i64 2) (by kernel_rfl) (by kernel_rfl) (hc51 0 _ rfl) (L_want (by kernel_rfl) (L_run (.bool false) (by kernel_rfl) (by kernel_rfl) (L_pickF (by kernel_rfl) (L_mv (L_want (by kernel_rfl) (L_mv (L_want (by kernel_rfl) ?_)))))))))))
  have hz := (r_q1.rd).at (k := 5) (fun _ => rfl) hx47
  obtain ⟨g54, off55, hl56, hc57⟩ := hz
  refine L_ixaddr (k := .i64) q1 1 _ g54 off55 el54 hl56 (by first | omega | (simp; done)) (by kernel_rfl) (by kernel_rfl) (L_want (by kernel_rfl) (L_run (.pointer (some ⟨g54, ((off55 + 1 * 5) + 2), none⟩)) (by kernel_rfl) (by kernel_rfl) (L_want (by kernel_rfl) (L_load g54 ((off55 + 1 * 5) + 2) (S ([98] : List UInt8)) (by kernel_rfl) (by kernel_rfl) (hc57 2 _ rfl) (L_want (by kernel_rfl) (L_sneF ([98] : List UInt8) ([98] : List UInt8) (by rfl) (by kernel_rfl) (by kernel_rfl) (L_pickF (by kernel_rfl) (L_nil (thenQ_normal (W_false (by kernel_rfl) (W_skip (thenQ_normal (W_seq (W_region (L_call 30 [(S ([102] : List UInt8)), (S ([97, 10, 255] : List UInt8))] (by kernel_rfl) (by kernel_rfl) (calls_as (c_lines_Read_bad ([102] : List UInt8) ([97, 10, 255] : List UInt8) _ (by first | omega | (simp; done)) (by decide)) (by kernel_rfl : _ = fun v w' => ∃ (cb0 : Nat), v = (.tuple #[(.slice none 0 0), (.iface 61 (.pointer (some ⟨cb0, 0, none⟩)))]) ∧ w'.heap[cb0]? = some (.cells [(S ([102] : List UInt8)), (.int .i64 2), (.int .i64 30)].toArray 65 (0, 0)) ∧ w2.heap.size ≤ cb0 ∧ Below w2.heap.size w2 w')) ?_)))))))))))))))
  rintro _ w58 ⟨cb61, rfl, o_cb61, g_cb61, hB59⟩
  replace g_cb61 := Nat.le_trans hs g_cb61
  replace hb := hb.trans (hB59.mono hs)
  replace hs := Nat.le_trans hs (hB59.size)
  replace r_q1 := r_q1.below hB59
  replace r_in13 := r_in13.below hB59
  replace r_in20 := r_in20.below hB59
  replace r_in33 := r_in33.below hB59
  refine L_mv (L_run (.slice none 0 0) (by kernel_rfl) (by kernel_rfl) (L_run (.iface 61 (.pointer (some ⟨cb61, 0, none⟩))) (by kernel_rfl) (by kernel_rfl) (L_as (L_nil (thenQ_normal (W_seq (W_region (L_new (fun b => .pointer (some ⟨b, 0, none⟩)) (.cells [(.pointer none)].toArray 61 (0, 0)) (by kernel_rfl) (by kernel_rfl) ?_))))))))
  intro b62 w63 hN64
  have ne_cb61_x3 : cb61 ≠ b62 := by have := (obj_lt o_cb61); have := hN64.num; omega
  have ne_x3_cb61 := ne_cb61_x3.symm
  have g_x3 : w.heap.size ≤ b62 := by rw [hN64.num]; exact hs
  replace hb := hb.trans (hN64.below.mono hs)
  replace hs := Nat.le_trans hs (hN64.below.size)
  replace o_cb61 := obj_below o_cb61 hN64.below
  replace r_q1 := r_q1.below hN64.below
  replace r_in13 := r_in13.below hN64.below
  replace r_in20 := r_in20.below hN64.below
  replace r_in33 := r_in33.below hN64.below
  have o_x3 := hN64.here
  refine L_nil (thenQ_normal (W_seq (W_region (L_mv (L_run (.iface 63 (.pointer (some ⟨b62, 0, none⟩))) (by kernel_rfl) (by kernel_rfl) (L_call 32 [(.iface 61 (.pointer (some ⟨cb61, 0, none⟩))), (.iface 63 (.pointer (some ⟨b62, 0, none⟩)))] (by kernel_rfl) (by kernel_rfl) (as_fk cb61 b62 (.pointer none) _ (gcell_below hty hb) o_x3) ?_))))))
  rintro _ w65 ⟨rfl, w66, hB67, hW68⟩
  replace hb := hb.trans (hB67.mono hs)
  replace hs := Nat.le_trans hs (hB67.size)
  replace o_cb61 := obj_below o_cb61 hB67
  replace o_x3 := obj_below o_x3 hB67
  replace r_q1 := r_q1.below hB67
  replace r_in13 := r_in13.below hB67
  replace r_in20 := r_in20.below hB67
  replace r_in33 := r_in33.below hB67
  replace hb := hb.trans (hW68.below g_x3)
  replace hs := Nat.le_trans hs (Nat.le_of_eq hW68.size.symm)
  have n_o_cb61 := obj_wrote o_cb61 hW68 (obj_ne o_cb61 o_x3 (by simp))
  have n_r_q1 := r_q1.wrote hW68 (r_q1.ne o_x3 (by simp))
  have n_r_in13 := r_in13.wrote hW68 (r_in13.ne o_x3 (by simp))
  have n_r_in20 := r_in20.wrote hW68 (r_in20.ne o_x3 (by simp))
  have n_r_in33 := r_in33.wrote hW68 (r_in33.ne o_x3 (by simp))
  replace o_cb61 := n_o_cb61; clear n_o_cb61
  replace r_q1 := n_r_q1; clear n_r_q1
  replace r_in13 := n_r_in13; clear n_r_in13
  replace r_in20 := n_r_in20; clear n_r_in20
  replace r_in33 := n_r_in33; clear n_r_in33
  replace o_x3 := hW68.here
  refine L_mv (L_want (by kernel_rfl) (L_load b62 0 (.pointer (some ⟨cb61, 0, none⟩)) (by kernel_rfl) (by kernel_rfl) (cell_obj o_x3 rfl) (L_want (by kernel_rfl) (L_run (.bool true) (by kernel_rfl) (by kernel_rfl) (L_pickT (by kernel_rfl) (L_mv (L_want (by kernel_rfl) (L_load b62 0 (.pointer (some ⟨cb61, 0, none⟩)) (by kernel_rfl) (by kernel_rfl) (cell_obj o_x3 rfl) (L_want (by kernel_rfl) (L_run (.pointer (some ⟨cb61, 0, none⟩)) (by kernel_rfl) (by kernel_rfl) (L_want (by kernel_rfl) (L_run (.pointer (some ⟨cb61, 0, none⟩)) (by kernel_rfl) (by kernel_rfl) (L_want (by kernel_rfl) (L_load cb61 0 (S ([102] : List UInt8)) (by kernel_rfl) (by kernel_rfl) (cell_obj o_cb61 rfl) (L_want (by kernel_rfl) (L_seqT ([102] : List UInt8) ([102] : List UInt8) (by rfl) (by kernel_rfl) (by kernel_rfl) (L_pickT (by kernel_rfl) (L_mv (L_want (by kernel_rfl) (L_load b62 0 (.pointer (some ⟨cb61, 0, none⟩)) (by kernel_rfl) (by kernel_rfl) (cell_obj o_x3 rfl) (L_want (by kernel_rfl) (L_run (.pointer (some ⟨cb61, 0, none⟩)) (by kernel_rfl) (by kernel_rfl) (L_want (by kernel_rfl) (L_run (.pointer (some ⟨cb61, 1, none⟩)) (by kernel_rfl) (by kernel_rfl) (L_want (by kernel_rfl) (L_load cb61 1 (.int .i64 2) (by kernel_rfl) (by kernel_rfl) (cell_obj o_cb61 rfl) (L_want (by kernel_rfl) (L_run (.bool true) (by kernel_rfl) (by kernel_rfl) (L_pickT (by kernel_rfl) (L_mv (L_want (by kernel_rfl) (L_load b62 0 (.pointer (some ⟨cb61, 0, none⟩)) (by kernel_rfl) (by kernel_rfl) (cell_obj o_x3 rfl) (L_want (by kernel_rfl) (L_run (.pointer (some ⟨cb61, 0, none⟩)) (by kernel_rfl) (by kernel_rfl) (L_want (by kernel_rfl) (L_run (.pointer (some ⟨cb61, 2, none⟩)) (by kernel_rfl) (by kernel_rfl) (L_want (by kernel_rfl) (L_load cb61 2 (.int .i64 30) (by kernel_rfl) (by kernel_rfl) (cell_obj o_cb61 rfl) (L_want (by kernel_rfl) (L_run (.bool true) (by kernel_rfl) (by kernel_rfl) (L_pickT (by kernel_rfl) (L_as (L_nil (thenQ_normal (W_ret ?_)))))))))))))))))))))))))))))))))))))))))))))
  refine end_ret [.tmp 0] [(.bool true)] rfl rfl ⟨by kernel_rfl, trivial⟩ ?_
  have e0 : true = true := by rfl
  exact ⟨congrArg Value.bool e0, hb⟩

set_option maxHeartbeats 4000000 in
set_option maxRecDepth 100000 in
theorem c_furrowlaw03_LinesNames (w : World) (hty : w.cell? ⟨0, 0, none⟩ = some (.iface 116 (.agg #[.pointer (some ⟨4, 56, none⟩)]))) :
    Calls Tryd.prog 10 #[] w (Ret fun v w' => v = (.bool true) ∧ Below w.heap.size w w') := by
  refine enter (args := []) Tryd.func10 rfl (by kernel_rfl : _ = 4) (by kernel_rfl) ?_
  have hb := Below.refl w.heap.size w
  have hs : w.heap.size ≤ w.heap.size := Nat.le_refl _
  refine W_seq (W_region (L_as (L_nil (thenQ_normal (W_seq (W_region (L_mv (L_want (by kernel_rfl) (L_call 16 [] (by kernel_rfl) (by kernel_rfl) (c_furrowlaw03_awake  _ (gcell_below hty hb)) ?_)))))))))
  rintro _ w1 ⟨rfl, hB2⟩
  replace hb := hb.trans (hB2.mono hs)
  replace hs := Nat.le_trans hs (hB2.size)
  refine L_pickT (by kernel_rfl) (L_as (L_nil (thenQ_normal (W_ret ?_))))
  refine end_ret [.tmp 0] [(.bool true)] rfl rfl ⟨by kernel_rfl, trivial⟩ ?_
  have e0 : true = true := by rfl
  exact ⟨congrArg Value.bool e0, hb⟩

end Go.Proofs.YtapndpldphflcaaDoor
