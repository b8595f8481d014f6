/- Walks, written by my program walk.py out of the specification gliv.py: each theorem says what one function returns and that it leaves memory as it was. -/
import Derived.Test.YthjgnnfonofgkaaPGL
import Derived.Test.YthjgnnfonofgkaaWghex
import Derived.Test.YthjgnnfonofgkaaWgmS
import Derived.Test.YthjgnnfonofgkaaWgnS
import Derived.Test.YthjgnnfonofgkaaFKad
import Derived.Test.YthjgnnfonofgkaaProg
import Derived.Tactics2
import Derived.Test.YthjgnnfonofgkaaFKu
namespace Go.Proofs.Ythjgnnfonofgkaa
open Go Go.RowKit Go.FK
set_option linter.unusedVariables false
set_option linter.unusedSimpArgs false

theorem eqagg29 (a0 : Int) (a1 : Int) (c0 : Int) (c1 : Int) (w : World) : (Op.equalIn 10000 29 (.agg #[.int .i32 a0, .int .i32 a1]) (.agg #[.int .i32 c0, .int .i32 c1])).run Try.prog w = .ok (a0 == c0 && a1 == c1) w := by
  have hS : Try.prog.underlying 29 = some (.struct (Try.prog.fieldsOf 29)) := by kernel_rfl
  have hp : Try.prog.stoodInHeld 29 = false := by kernel_rfl
  rw [show (10000 : Nat) = 9999 + 1 from rfl, run_equalIn_agg w 9999 29 _ _ hS hp]
  simp only [Program.fieldsOf, Try.underlying29]
  have isAgg21 := Try.isAgg21
  have sizeOf21 := Try.sizeOf21
  have underlying21 := Try.underlying21
  try simp only [S]
  go_simp
  by_cases h0 : a0 = c0 <;> by_cases h1 : a1 = c1 <;> simp [h0, h1]


set_option maxHeartbeats 4000000 in
set_option maxRecDepth 100000 in
theorem c_lives (w : World) {m_ml : Int} (hml : w.cell? ⟨0, 0, none⟩ = some (.int .i64 m_ml)) :
    Calls Try.prog 8 #[] w (Ret fun v w' => v = (.bool true) ∧ Below w.heap.size w w') := by
  refine enterM (args := []) Try.func8 rfl (by kernel_rfl : _ = 81) (by kernel_rfl) ?_
  have hb := Below.refl w.heap.size w
  have hs : w.heap.size ≤ w.heap.size := Nat.le_refl _
  refine W_seq (W_region (L_new (fun b => .pointer (some ⟨b, 0, none⟩)) (.cells [(.bool false)].toArray 4 (0, 0)) (by kernel_rfl) (by kernel_rfl) ?_))
  intro b1 w2 hN3
  have g_x0 : w.heap.size ≤ b1 := by rw [hN3.num]; exact hs
  replace hb := hb.trans (hN3.below.mono hs)
  replace hs := Nat.le_trans hs (hN3.below.size)
  have o_x0 := hN3.here
  refine L_nil (thenQ_normal (W_seq (W_region (L_call 41 [] (by kernel_rfl) (by kernel_rfl) (c_new_S  _ ) ?_))))
  rintro _ w4 ⟨cb7, rfl, o_cb7, g_cb7, hB5⟩
  have ne_x0_cb7 : b1 ≠ cb7 := by have := (obj_lt o_x0); omega
  have ne_cb7_x0 := ne_x0_cb7.symm
  replace g_cb7 := Nat.le_trans hs g_cb7
  replace hb := hb.trans (hB5.mono hs)
  replace hs := Nat.le_trans hs (hB5.size)
  replace o_x0 := obj_below o_x0 hB5
  refine L_as (L_nil (thenQ_normal (W_seq (W_seq (W_region (L_mv (L_run (.bool false) (by kernel_rfl) (by kernel_rfl) (L_mv (L_want (by kernel_rfl) (L_mv (L_want (by kernel_rfl) (L_run (Value.agg #[(.int .i32 16), (.int .i32 25)]) (by kernel_rfl) (by kernel_rfl) (L_want (by kernel_rfl) (L_call 44 [(.pointer (some ⟨cb7, 0, none⟩)), (Value.agg #[(.int .i32 16), (.int .i32 25)]), (S ([97] : List UInt8))] (by kernel_rfl) (by kernel_rfl) (calls_as (c_put_S cb7 (.slice none 0 0) [] 16 25 ([97] : List UInt8) w.heap.size _ hs o_cb7 g_cb7 (Row.nil _ w.heap.size 138 3 encSpanS) (by simp [RiseG]) (by first | omega | decide | (simp; done) | (simp [RiseG]; done)) (by first | omega | decide | (simp; done) | (simp [RiseG]; done))) (by kernel_rfl : _ = fun v w' => ∃ q0 : Value, v = (.int .i64 0) ∧ w'.heap[cb7]? = some (.cells [q0, (.bool true)].toArray 136 (0, 0)) ∧ Row w' w.heap.size 138 3 encSpanS q0 ([(16, 25, [97])] : List SpS) ∧ (∀ g, Value.ownBlock q0 = some g → w4.heap.size ≤ g ∨ (Dm cb7 (.slice none 0 0)) g) ∧ Ch (Dm cb7 (.slice none 0 0)) w4 w')) ?_))))))))))))))
  rintro _ w9 ⟨q8, rfl, ho12, r_q8, dm10, hC11⟩
  replace hb := hC11.below hb hs (fun k e => e.elim (fun x => x ▸ g_cb7) (fun x => by simp [Value.ownBlock] at x))
  replace hs := Nat.le_trans hs hC11.size
  have n_o_x0 := obj_ch_mut o_x0 hC11 (obj_ne o_x0 o_cb7 (by simp)) (by simp [Value.ownBlock])
  replace o_x0 := n_o_x0; clear n_o_x0
  replace o_cb7 := ho12
  refine L_want (by kernel_rfl) (L_run (.bool false) (by kernel_rfl) (by kernel_rfl) (L_pickF (by kernel_rfl) (L_mv (L_want (by kernel_rfl) (L_mv (L_want (by kernel_rfl) (L_run (Value.agg #[(.int .i32 32), (.int .i32 41)]) (by kernel_rfl) (by kernel_rfl) (L_want (by kernel_rfl) (L_call 44 [(.pointer (some ⟨cb7, 0, none⟩)), (Value.agg #[(.int .i32 32), (.int .i32 41)]), (S ([97] : List UInt8))] (by kernel_rfl) (by kernel_rfl) (calls_as (c_put_S cb7 q8 ([(16, 25, [97])] : List SpS) 32 41 ([97] : List UInt8) w.heap.size _ hs o_cb7 g_cb7 r_q8 (by simp [RiseG]) (by first | omega | decide | (simp; done) | (simp [RiseG]; done)) (by first | omega | decide | (simp; done) | (simp [RiseG]; done))) (by kernel_rfl : _ = fun v w' => ∃ q0 : Value, v = (.int .i64 0) ∧ w'.heap[cb7]? = some (.cells [q0, (.bool true)].toArray 136 (0, 0)) ∧ Row w' w.heap.size 138 3 encSpanS q0 ([(16, 25, [97]), (32, 41, [97])] : List SpS) ∧ (∀ g, Value.ownBlock q0 = some g → w9.heap.size ≤ g ∨ (Dm cb7 q8) g) ∧ Ch (Dm cb7 q8) w9 w')) ?_)))))))))
  rintro _ w14 ⟨q13, rfl, ho17, r_q13, dm15, hC16⟩
  replace hb := hC16.below hb hs (fun k e => e.elim (fun x => x ▸ g_cb7) (fun x => (World.ownsRow.lt r_q8 k x).1))
  replace hs := Nat.le_trans hs hC16.size
  have n_o_x0 := obj_ch_mut o_x0 hC16 (obj_ne o_x0 o_cb7 (by simp)) (r_q8.ne o_x0 (by simp))
  replace o_x0 := n_o_x0; clear n_o_x0
  replace o_cb7 := ho17
  refine L_want (by kernel_rfl) (L_run (.bool false) (by kernel_rfl) (by kernel_rfl) (L_pickF (by kernel_rfl) (L_mv (L_want (by kernel_rfl) (L_mv (L_want (by kernel_rfl) (L_run (Value.agg #[(.int .i32 26), (.int .i32 31)]) (by kernel_rfl) (by kernel_rfl) (L_want (by kernel_rfl) (L_call 45 [(.pointer (some ⟨cb7, 0, none⟩)), (Value.agg #[(.int .i32 26), (.int .i32 31)]), (S ([97] : List UInt8))] (by kernel_rfl) (by kernel_rfl) (calls_as (c_lay_S cb7 q13 ([(16, 25, [97]), (32, 41, [97])] : List SpS) 26 31 ([97] : List UInt8) w.heap.size _ hs o_cb7 g_cb7 r_q13 (by simp [RiseG]) (by first | omega | decide | (simp; done) | (simp [RiseG]; done)) (by first | omega | decide | (simp; done) | (simp [RiseG]; done))) (by kernel_rfl : _ = fun v w' => ∃ q0 : Value, v = (.int .i64 0) ∧ w'.heap[cb7]? = some (.cells [q0, (.bool true)].toArray 136 (0, 0)) ∧ Row w' w.heap.size 138 3 encSpanS q0 ([(16, 41, [97])] : List SpS) ∧ (∀ g, Value.ownBlock q0 = some g → w14.heap.size ≤ g ∨ (Dm cb7 q13) g) ∧ Ch (Dm cb7 q13) w14 w')) ?_)))))))))
  rintro _ w19 ⟨q18, rfl, ho22, r_q18, dm20, hC21⟩
  replace hb := hC21.below hb hs (fun k e => e.elim (fun x => x ▸ g_cb7) (fun x => (World.ownsRow.lt r_q13 k x).1))
  replace hs := Nat.le_trans hs hC21.size
  have n_o_x0 := obj_ch_mut o_x0 hC21 (obj_ne o_x0 o_cb7 (by simp)) (r_q13.ne o_x0 (by simp))
  replace o_x0 := n_o_x0; clear n_o_x0
  replace o_cb7 := ho22
  refine L_want (by kernel_rfl) (L_run (.bool false) (by kernel_rfl) (by kernel_rfl) (L_pickF (by kernel_rfl) (L_mv (L_want (by kernel_rfl) (L_mv (L_want (by kernel_rfl) (L_run (Value.agg #[(.int .i32 21), (.int .i32 21)]) (by kernel_rfl) (by kernel_rfl) (L_want (by kernel_rfl) (L_call 44 [(.pointer (some ⟨cb7, 0, none⟩)), (Value.agg #[(.int .i32 21), (.int .i32 21)]), (S ([98] : List UInt8))] (by kernel_rfl) (by kernel_rfl) (calls_as (c_put_S cb7 q18 ([(16, 41, [97])] : List SpS) 21 21 ([98] : List UInt8) w.heap.size _ hs o_cb7 g_cb7 r_q18 (by simp [RiseG]) (by first | omega | decide | (simp; done) | (simp [RiseG]; done)) (by first | omega | decide | (simp; done) | (simp [RiseG]; done))) (by kernel_rfl : _ = fun v w' => ∃ q0 : Value, v = (.int .i64 42) ∧ w'.heap[cb7]? = some (.cells [q0, (.bool true)].toArray 136 (0, 0)) ∧ Row w' w.heap.size 138 3 encSpanS q0 ([(16, 41, [97])] : List SpS) ∧ (∀ g, Value.ownBlock q0 = some g → w19.heap.size ≤ g ∨ (Dm cb7 q18) g) ∧ Ch (Dm cb7 q18) w19 w')) ?_)))))))))
  rintro _ w24 ⟨q23, rfl, ho27, r_q23, dm25, hC26⟩
  replace hb := hC26.below hb hs (fun k e => e.elim (fun x => x ▸ g_cb7) (fun x => (World.ownsRow.lt r_q18 k x).1))
  replace hs := Nat.le_trans hs hC26.size
  have n_o_x0 := obj_ch_mut o_x0 hC26 (obj_ne o_x0 o_cb7 (by simp)) (r_q18.ne o_x0 (by simp))
  replace o_x0 := n_o_x0; clear n_o_x0
  replace o_cb7 := ho27
  refine L_want (by kernel_rfl) (L_run (.bool false) (by kernel_rfl) (by kernel_rfl) (L_pickF (by kernel_rfl) (L_nil (thenQ_normal (W_false (by kernel_rfl) (W_skip (thenQ_normal (W_seq (W_region (L_mv (L_call 46 [(.pointer (some ⟨cb7, 0, none⟩)), (.int .i32 31)] (by kernel_rfl) (by kernel_rfl) (calls_as (c_at_S cb7 q23 ([(16, 41, [97])] : List SpS) 31 _ o_cb7 r_q23.rd (by simp [RiseG])) (by kernel_rfl : _ = fun v w' => v = (.tuple #[(S ([97] : List UInt8)), (.bool true)]) ∧ Below w24.heap.size w24 w')) ?_)))))))))))
  rintro _ w28 ⟨rfl, hB29⟩
  replace hb := hb.trans (hB29.mono hs)
  replace hs := Nat.le_trans hs (hB29.size)
  replace o_x0 := obj_below o_x0 hB29
  replace o_cb7 := obj_below o_cb7 hB29
  replace r_q23 := r_q23.below hB29
  refine L_mv (L_run (S ([97] : List UInt8)) (by kernel_rfl) (by kernel_rfl) (L_run (.bool true) (by kernel_rfl) (by kernel_rfl) (L_as (L_as (L_nil (thenQ_normal (W_seq (W_region (L_call 47 [(S ([48, 48, 49, 48, 46, 46, 48, 48, 50, 57] : List UInt8))] (by kernel_rfl) (by kernel_rfl) (calls_as (c_points_Span ([48, 48, 49, 48, 46, 46, 48, 48, 50, 57] : List UInt8) _ (gcell_below hml hb) (by first | omega | decide | (simp; done) | (simp [RiseG]; done))) (by kernel_rfl : _ = fun v w' => v = (.tuple #[(Value.agg #[(.int .i32 16), (.int .i32 41)]), (.int .i64 0)]) ∧ Below w28.heap.size w28 w')) ?_)))))))))
  rintro _ w31 ⟨rfl, hB32⟩
  replace hb := hb.trans (hB32.mono hs)
  replace hs := Nat.le_trans hs (hB32.size)
  replace o_x0 := obj_below o_x0 hB32
  replace o_cb7 := obj_below o_cb7 hB32
  replace r_q23 := r_q23.below hB32
  refine L_mv (L_run (Value.agg #[(.int .i32 16), (.int .i32 41)]) (by kernel_rfl) (by kernel_rfl) (L_run (.int .i64 0) (by kernel_rfl) (by kernel_rfl) (L_new (fun b => .pointer (some ⟨b, 0, none⟩)) (.cells [(.int .i32 0), (.int .i32 0)].toArray 29 (0, 0)) (by kernel_rfl) (by kernel_rfl) ?_)))
  intro b34 w35 hN36
  have ne_x0_x4 : b1 ≠ b34 := by have := (obj_lt o_x0); have := hN36.num; omega
  have ne_x4_x0 := ne_x0_x4.symm
  have ne_cb7_x4 : cb7 ≠ b34 := by have := (obj_lt o_cb7); have := hN36.num; omega
  have ne_x4_cb7 := ne_cb7_x4.symm
  have g_x4 : w.heap.size ≤ b34 := by rw [hN36.num]; exact hs
  replace hb := hb.trans (hN36.below.mono hs)
  replace hs := Nat.le_trans hs (hN36.below.size)
  replace o_x0 := obj_below o_x0 hN36.below
  replace o_cb7 := obj_below o_cb7 hN36.below
  replace r_q23 := r_q23.below hN36.below
  have o_x4 := hN36.here
  refine L_storeA b34 0 [(.int .i32 16), (.int .i32 41)] [(.int .i32 0), (.int .i32 0)] [(.int .i32 16), (.int .i32 41)] 29 (by kernel_rfl) (by kernel_rfl) rfl (by kernel_rfl) o_x4 (by kernel_rfl) rfl ?_
  intro w37 hW38
  replace hb := hb.trans (hW38.below g_x4)
  replace hs := Nat.le_trans hs (Nat.le_of_eq hW38.size.symm)
  have n_o_x0 := obj_wrote o_x0 hW38 (obj_ne o_x0 o_x4 (by simp))
  have n_o_cb7 := obj_wrote o_cb7 hW38 (obj_ne o_cb7 o_x4 (by simp))
  have n_r_q23 := r_q23.wrote hW38 (r_q23.ne o_x4 (by simp))
  replace o_x0 := n_o_x0; clear n_o_x0
  replace o_cb7 := n_o_cb7; clear n_o_cb7
  replace r_q23 := n_r_q23; clear n_r_q23
  replace o_x4 := hW38.here
  refine L_as (L_nil (thenQ_normal (W_seq (W_region (L_new (fun b => .pointer (some ⟨b, 0, none⟩)) (.cells [(.int .i64 0)].toArray 3 (0, 0)) (by kernel_rfl) (by kernel_rfl) ?_)))))
  intro b39 w40 hN41
  have ne_x0_x6 : b1 ≠ b39 := by have := (obj_lt o_x0); have := hN41.num; omega
  have ne_x6_x0 := ne_x0_x6.symm
  have ne_cb7_x6 : cb7 ≠ b39 := by have := (obj_lt o_cb7); have := hN41.num; omega
  have ne_x6_cb7 := ne_cb7_x6.symm
  have ne_x4_x6 : b34 ≠ b39 := by have := (obj_lt o_x4); have := hN41.num; omega
  have ne_x6_x4 := ne_x4_x6.symm
  have g_x6 : w.heap.size ≤ b39 := by rw [hN41.num]; exact hs
  replace hb := hb.trans (hN41.below.mono hs)
  replace hs := Nat.le_trans hs (hN41.below.size)
  replace o_x0 := obj_below o_x0 hN41.below
  replace o_cb7 := obj_below o_cb7 hN41.below
  replace o_x4 := obj_below o_x4 hN41.below
  replace r_q23 := r_q23.below hN41.below
  have o_x6 := hN41.here
  refine L_store b39 0 (.int .i64 0) [(.int .i64 0)] [(.int .i64 0)] 3 (by kernel_rfl) (by kernel_rfl) rfl (by kernel_rfl) o_x6 (by simp) rfl ?_
  intro w42 hW43
  replace hb := hb.trans (hW43.below g_x6)
  replace hs := Nat.le_trans hs (Nat.le_of_eq hW43.size.symm)
  have n_o_x0 := obj_wrote o_x0 hW43 (obj_ne o_x0 o_x6 (by simp))
  have n_o_cb7 := obj_wrote o_cb7 hW43 (obj_ne o_cb7 o_x6 (by simp))
  have n_o_x4 := obj_wrote o_x4 hW43 (obj_ne o_x4 o_x6 (by simp))
  have n_r_q23 := r_q23.wrote hW43 (r_q23.ne o_x6 (by simp))
  replace o_x0 := n_o_x0; clear n_o_x0
  replace o_cb7 := n_o_cb7; clear n_o_cb7
  replace o_x4 := n_o_x4; clear n_o_x4
  replace r_q23 := n_r_q23; clear n_r_q23
  replace o_x6 := hW43.here
  refine L_nil (thenQ_normal (W_seq (W_seq (W_region (L_mv (L_call 38 [(.pointer (some ⟨cb7, 0, none⟩))] (by kernel_rfl) (by kernel_rfl) (c_all_S cb7 q23 ([(16, 41, [97])] : List SpS) _ o_cb7 r_q23.rd) ?_))))))
  rintro _ w44 ⟨cb47, rfl, o_cb47, g_cb47, hB45⟩
  have ne_x0_cb47 : b1 ≠ cb47 := by have := (obj_lt o_x0); omega
  have ne_cb47_x0 := ne_x0_cb47.symm
  have ne_cb7_cb47 : cb7 ≠ cb47 := by have := (obj_lt o_cb7); omega
  have ne_cb47_cb7 := ne_cb7_cb47.symm
  have ne_x4_cb47 : b34 ≠ cb47 := by have := (obj_lt o_x4); omega
  have ne_cb47_x4 := ne_x4_cb47.symm
  have ne_x6_cb47 : b39 ≠ cb47 := by have := (obj_lt o_x6); omega
  have ne_cb47_x6 := ne_x6_cb47.symm
  replace g_cb47 := Nat.le_trans hs g_cb47
  replace hb := hb.trans (hB45.mono hs)
  replace hs := Nat.le_trans hs (hB45.size)
  replace o_x0 := obj_below o_x0 hB45
  replace o_cb7 := obj_below o_cb7 hB45
  replace o_x4 := obj_below o_x4 hB45
  replace o_x6 := obj_below o_x6 hB45
  replace r_q23 := r_q23.below hB45
  refine L_nil (thenQ_normal (W_block ?_))
  have lt_x0_0 : b1 < w44.heap.size := obj_lt o_x0
  have lt_cb7_0 : cb7 < w44.heap.size := obj_lt o_cb7
  have lt_x4_0 : b34 < w44.heap.size := obj_lt o_x4
  have lt_x6_0 : b39 < w44.heap.size := obj_lt o_x6
  have lt_cb47_0 : cb47 < w44.heap.size := obj_lt o_cb47
  have hs_0 := hs
  have hb_0 := hb
  refine W_range 72 [(.pointer (some ⟨cb47, 0, none⟩))] ([(16, 41, [97])] : List SpS) (by kernel_rfl) (fun _ _ => rfl) (it_all_S cb47 cb7 q23 ([(16, 41, [97])] : List SpS) (by first | omega | decide | (simp; done) | (simp [RiseG]; done))) ⟨o_cb47, o_cb7, r_q23.rd⟩ ((fun D A B h hc hd => ⟨obj_ch h.1 hc (fun h => Nat.not_lt.2 (hd _ h) lt_cb47_0), obj_ch h.2.1 hc (fun h => Nat.not_lt.2 (hd _ h) lt_cb7_0), Rd.ch r_q23.rd (Nat.le_refl _) h.2.2 hc hd⟩)) (by intro x; rfl) (fun K pre A => ∃ (n : Nat), (A.heap[b1]? = some (.cells [(.bool false)].toArray 4 (0, 0))) ∧ (A.heap[cb7]? = some (.cells [q23, (.bool true)].toArray 136 (0, 0))) ∧ (A.heap[b34]? = some (.cells [(.int .i32 16), (.int .i32 41)].toArray 29 (0, 0))) ∧ (A.heap[b39]? = some (.cells [(.int .i64 ((n : Nat) : Int))].toArray 3 (0, 0))) ∧ (A.heap[cb47]? = some (.cells [(.pointer (some ⟨cb7, 0, none⟩))].toArray 66 (0, 0))) ∧ (Row A w.heap.size 138 3 encSpanS q23 ([(16, 41, [97])] : List SpS)) ∧ (∀ g, Value.ownBlock q23 = some g → ¬ Iv w44.heap.size K g) ∧ (Below w.heap.size w A) ∧ (n = pre.length)) (fun K c pre A => False) ?_ ?_ ?_ ?_ ?_ ?_
  · intro A hA
    exact ⟨0, obj_below o_x0 hA, obj_below o_cb7 hA, obj_below o_x4 hA, obj_below o_x6 hA, obj_below o_cb47 hA, r_q23.below hA, nr_old r_q23 _, hb.trans (hA.mono hs), by rfl⟩
  · rintro K pre A B ⟨n, o_x0, o_cb7, o_x4, o_x6, o_cb47, r_q23, nr_r_q23, hb, pn⟩ hc
    exact ⟨n, obj_ch o_x0 hc (fun h => Nat.not_lt.2 h.1 lt_x0_0), obj_ch o_cb7 hc (fun h => Nat.not_lt.2 h.1 lt_cb7_0), obj_ch o_x4 hc (fun h => Nat.not_lt.2 h.1 lt_x4_0), obj_ch o_x6 hc (fun h => Nat.not_lt.2 h.1 lt_x6_0), obj_ch o_cb47 hc (fun h => Nat.not_lt.2 h.1 lt_cb47_0), r_q23.ch hc nr_r_q23, nr_r_q23, hc.below hb hb.size (fun k h => Nat.le_trans hs_0 h.1), pn⟩
  · intro K c _ A B h hc; exact h.elim
  · intro l K pre x A hi hN hK0 hK hpre
    obtain ⟨n, o_x0, o_cb7, o_x4, o_x6, o_cb47, r_q23, nr_r_q23, hb, pn⟩ := hi
    have hs := hb.size
    have hk := Kp.refl (w44.heap.size) K A
    have nv_x0 : ¬ Iv (w44.heap.size) K b1 := fun h => Nat.not_lt.2 h.1 lt_x0_0
    have nv_cb7 : ¬ Iv (w44.heap.size) K cb7 := fun h => Nat.not_lt.2 h.1 lt_cb7_0
    have nv_x4 : ¬ Iv (w44.heap.size) K b34 := fun h => Nat.not_lt.2 h.1 lt_x4_0
    have nv_x6 : ¬ Iv (w44.heap.size) K b39 := fun h => Nat.not_lt.2 h.1 lt_x6_0
    have nv_cb47 : ¬ Iv (w44.heap.size) K cb47 := fun h => Nat.not_lt.2 h.1 lt_cb47_0
    replace o_cb47 := hN.1
    replace o_cb7 := hN.2.1
    have hx := tk_single hpre
    have hlt := tk_lt hpre
    have hl1 : (([(16, 41, [97])] : List SpS)).length = 1 := rfl
    refine W_seq (W_region (L_new (fun b => .pointer (some ⟨b, 0, none⟩)) (.cells [(.int .i32 0), (.int .i32 0)].toArray 29 (0, 0)) (by kernel_rfl) (by kernel_rfl) ?_))
    intro b48 w49 hN50
    have ne_x0_x7 : b1 ≠ b48 := by have := (obj_lt o_x0); have := hN50.num; omega
    have ne_x7_x0 := ne_x0_x7.symm
    have ne_cb7_x7 : cb7 ≠ b48 := by have := (obj_lt o_cb7); have := hN50.num; omega
    have ne_x7_cb7 := ne_cb7_x7.symm
    have ne_x4_x7 : b34 ≠ b48 := by have := (obj_lt o_x4); have := hN50.num; omega
    have ne_x7_x4 := ne_x4_x7.symm
    have ne_x6_x7 : b39 ≠ b48 := by have := (obj_lt o_x6); have := hN50.num; omega
    have ne_x7_x6 := ne_x6_x7.symm
    have ne_cb47_x7 : cb47 ≠ b48 := by have := (obj_lt o_cb47); have := hN50.num; omega
    have ne_x7_cb47 := ne_cb47_x7.symm
    have g_x7 : w.heap.size ≤ b48 := by rw [hN50.num]; exact hs
    have nv_x7 : ¬ Iv w44.heap.size K b48 := fun h => by have := h.2; have := hN50.num; omega
    replace hb := hb.trans (hN50.below.mono hs)
    replace hk := hk.ch (Ch.of_below hN50.below) hK (fun _ h => h.elim)
    replace hK := Nat.le_trans hK (hN50.below.size)
    replace hs := Nat.le_trans hs (hN50.below.size)
    replace o_x0 := obj_below o_x0 hN50.below
    replace o_cb7 := obj_below o_cb7 hN50.below
    replace o_x4 := obj_below o_x4 hN50.below
    replace o_x6 := obj_below o_x6 hN50.below
    replace o_cb47 := obj_below o_cb47 hN50.below
    replace r_q23 := r_q23.below hN50.below
    have o_x7 := hN50.here
    refine L_storeA b48 0 [(.int .i32 x.1), (.int .i32 x.2.1)] [(.int .i32 0), (.int .i32 0)] [(.int .i32 x.1), (.int .i32 x.2.1)] 29 (by kernel_rfl) (by kernel_rfl) rfl (by kernel_rfl) o_x7 (by kernel_rfl) rfl ?_
    intro w51 hW52
    replace hb := hb.trans (hW52.below g_x7)
    replace hk := hk.ch (Ch.of_wrote hW52) hK (fun k e h => nv_x7 (e ▸ h))
    replace hK := Nat.le_trans hK (Nat.le_of_eq hW52.size.symm)
    replace hs := Nat.le_trans hs (Nat.le_of_eq hW52.size.symm)
    have n_o_x0 := obj_wrote o_x0 hW52 (obj_ne o_x0 o_x7 (by simp))
    have n_o_cb7 := obj_wrote o_cb7 hW52 (obj_ne o_cb7 o_x7 (by simp))
    have n_o_x4 := obj_wrote o_x4 hW52 ne_x4_x7
    have n_o_x6 := obj_wrote o_x6 hW52 (obj_ne o_x6 o_x7 (by simp))
    have n_o_cb47 := obj_wrote o_cb47 hW52 (obj_ne o_cb47 o_x7 (by simp))
    have n_r_q23 := r_q23.wrote hW52 (r_q23.ne o_x7 (by simp))
    replace o_x0 := n_o_x0; clear n_o_x0
    replace o_cb7 := n_o_cb7; clear n_o_cb7
    replace o_x4 := n_o_x4; clear n_o_x4
    replace o_x6 := n_o_x6; clear n_o_x6
    replace o_cb47 := n_o_cb47; clear n_o_cb47
    replace r_q23 := n_r_q23; clear n_r_q23
    replace o_x7 := hW52.here
    refine L_nil (thenQ_normal (W_region (L_as (L_nil ?_))))
    refine thenQ_normal ⟨hk, ?_⟩
    intro w53 hc54
    replace o_x0 := obj_ch o_x0 hc54 nv_x0
    replace o_cb7 := obj_ch o_cb7 hc54 nv_cb7
    replace o_x4 := obj_ch o_x4 hc54 nv_x4
    replace o_x6 := obj_ch o_x6 hc54 nv_x6
    replace o_cb47 := obj_ch o_cb47 hc54 nv_cb47
    replace o_x7 := obj_ch o_x7 hc54 nv_x7
    replace r_q23 := r_q23.ch hc54 nr_r_q23
    replace hb := hc54.below hb hs (fun k h => Nat.le_trans hs_0 h.1)
    replace hs := hb.size
    replace hK := Nat.le_trans hK hc54.size
    replace hk := Kp.refl (w44.heap.size) K w53
    refine W_block (W_seq (W_seq (W_region (L_loadA b48 0 [(.int .i32 x.1), (.int .i32 x.2.1)] (by kernel_rfl) (by kernel_rfl) (by kernel_rfl) (cells_at o_x7 0 (by kernel_rfl)) (L_loadA b34 0 [(.int .i32 16), (.int .i32 41)] (by kernel_rfl) (by kernel_rfl) (by kernel_rfl) (cells_at o_x4 0 (by kernel_rfl)) (L_run (.bool false) (by subst hx; kernel_rfl) (by kernel_rfl) (L_mv (L_want (by kernel_rfl) (L_mv (L_want (by kernel_rfl) (L_sne x.2.2 ([97] : List UInt8) rfl (by kernel_rfl) (by kernel_rfl) ?_ ?_)))))))))))
    · intro h55
      exfalso; exact h55 (by rw [hx])
    · intro h56
      refine L_pickF (by kernel_rfl) (L_nil (thenQ_normal (W_false (by kernel_rfl) (W_skip (thenQ_normal (W_region (L_load b39 0 (.int .i64 ((n : Nat) : Int)) (by kernel_rfl) (by kernel_rfl) (cell_obj o_x6 rfl) (L_addN n 1 (by omega) (by kernel_rfl) (by kernel_rfl) (L_store b39 0 (.int .i64 (((n + 1) : Nat) : Int)) [(.int .i64 ((n : Nat) : Int))] [(.int .i64 (((n + 1) : Nat) : Int))] 3 (by kernel_rfl) (by kernel_rfl) rfl (by kernel_rfl) o_x6 (by simp) rfl ?_)))))))))
      intro w57 hW58
      replace hb := hb.trans (hW58.below g_x6)
      replace hk := hk.ch (Ch.of_wrote hW58) hK (fun k e h => nv_x6 (e ▸ h))
      replace hK := Nat.le_trans hK (Nat.le_of_eq hW58.size.symm)
      replace hs := Nat.le_trans hs (Nat.le_of_eq hW58.size.symm)
      have n_o_x0 := obj_wrote o_x0 hW58 (obj_ne o_x0 o_x6 (by simp))
      have n_o_cb7 := obj_wrote o_cb7 hW58 (obj_ne o_cb7 o_x6 (by simp))
      have n_o_x4 := obj_wrote o_x4 hW58 (obj_ne o_x4 o_x6 (by simp))
      have n_o_cb47 := obj_wrote o_cb47 hW58 (obj_ne o_cb47 o_x6 (by simp))
      have n_o_x7 := obj_wrote o_x7 hW58 (obj_ne o_x7 o_x6 (by simp))
      have n_r_q23 := r_q23.wrote hW58 (r_q23.ne o_x6 (by simp))
      replace o_x0 := n_o_x0; clear n_o_x0
      replace o_cb7 := n_o_cb7; clear n_o_cb7
      replace o_x4 := n_o_x4; clear n_o_x4
      replace o_cb47 := n_o_cb47; clear n_o_cb47
      replace o_x7 := n_o_x7; clear n_o_x7
      replace r_q23 := n_r_q23; clear n_r_q23
      replace o_x6 := hW58.here
      refine L_nil (blkQ_normal ?_)
      refine round_normal hk ⟨o_cb47, o_cb7, r_q23.rd⟩ ⟨(n + 1), o_x0, o_cb7, o_x4, o_x6, o_cb47, r_q23, nr_r_q23, hb, ?_⟩
      · simp [pn]
  · intro K A hi hsz o_D0
    obtain ⟨n, o_x0, o_cb7, o_x4, o_x6, o_cb47, r_q23, nr_r_q23, hb, pn⟩ := hi
    have ne_x0_D0 : b1 ≠ w44.heap.size := Nat.ne_of_lt lt_x0_0
    have ne_D0_x0 := ne_x0_D0.symm
    have ne_cb7_D0 : cb7 ≠ w44.heap.size := Nat.ne_of_lt lt_cb7_0
    have ne_D0_cb7 := ne_cb7_D0.symm
    have ne_x4_D0 : b34 ≠ w44.heap.size := Nat.ne_of_lt lt_x4_0
    have ne_D0_x4 := ne_x4_D0.symm
    have ne_x6_D0 : b39 ≠ w44.heap.size := Nat.ne_of_lt lt_x6_0
    have ne_D0_x6 := ne_x6_D0.symm
    have ne_cb47_D0 : cb47 ≠ w44.heap.size := Nat.ne_of_lt lt_cb47_0
    have ne_D0_cb47 := ne_cb47_D0.symm
    have hs : w.heap.size ≤ _ := hb.size
    refine blkQ_normal (thenQ_normal (W_seq (W_region (L_mv (L_seqT ([97] : List UInt8) ([97] : List UInt8) (by rfl) (by kernel_rfl) (by kernel_rfl) (L_mv (L_want (by kernel_rfl) (L_mv (L_pickT (by kernel_rfl) (L_mv (L_want (by kernel_rfl) (L_mv (L_want (by kernel_rfl) (L_run (.bool true) (by kernel_rfl) (by kernel_rfl) (L_pickT (by kernel_rfl) (L_mv (L_want (by kernel_rfl) (L_load b39 0 (.int .i64 ((n : Nat) : Int)) (by kernel_rfl) (by kernel_rfl) (cell_obj o_x6 rfl) (L_want (by kernel_rfl) (L_cmp .i64 ((n : Nat) : Int) ((1 : Nat) : Int) (n = 1) rfl (cmpN_eq n 1) (by kernel_rfl) (by kernel_rfl) ?_ ?_))))))))))))))))))))
    · intro h59
      replace h59 : n = 1 := by omega
      refine L_pickT (by kernel_rfl) (L_mv (L_want (by kernel_rfl) (L_mv (L_want (by kernel_rfl) (L_call 48 [(.pointer (some ⟨cb7, 0, none⟩))] (by kernel_rfl) (by kernel_rfl) (calls_as (c_len_S cb7 q23 ([(16, 41, [97])] : List SpS) _ o_cb7 r_q23.rd) (by kernel_rfl : _ = fun v w' => v = (.int .i64 1) ∧ Below A.heap.size A w')) ?_)))))
      rintro _ w60 ⟨rfl, hB61⟩
      replace hb := hb.trans (hB61.mono hs)
      replace hs := Nat.le_trans hs (hB61.size)
      replace o_x0 := obj_below o_x0 hB61
      replace o_cb7 := obj_below o_cb7 hB61
      replace o_x4 := obj_below o_x4 hB61
      replace o_x6 := obj_below o_x6 hB61
      replace o_cb47 := obj_below o_cb47 hB61
      replace o_D0 := obj_below o_D0 hB61
      replace r_q23 := r_q23.below hB61
      refine L_want (by kernel_rfl) (L_run (.bool true) (by kernel_rfl) (by kernel_rfl) (L_pickT (by kernel_rfl) (L_mv (L_want (by kernel_rfl) (L_mv (L_want (by kernel_rfl) (L_call 36 [(.pointer (some ⟨cb7, 0, none⟩))] (by kernel_rfl) (by kernel_rfl) (calls_as (c_size_S cb7 q23 ([(16, 41, [97])] : List SpS) _ o_cb7 r_q23.rd (by simp [RiseG])) (by kernel_rfl : _ = fun v w' => v = (.int .i64 26) ∧ Below w60.heap.size w60 w')) ?_)))))))
      rintro _ w63 ⟨rfl, hB64⟩
      replace hb := hb.trans (hB64.mono hs)
      replace hs := Nat.le_trans hs (hB64.size)
      replace o_x0 := obj_below o_x0 hB64
      replace o_cb7 := obj_below o_cb7 hB64
      replace o_x4 := obj_below o_x4 hB64
      replace o_x6 := obj_below o_x6 hB64
      replace o_cb47 := obj_below o_cb47 hB64
      replace o_D0 := obj_below o_D0 hB64
      replace r_q23 := r_q23.below hB64
      refine L_want (by kernel_rfl) (L_run (.bool true) (by kernel_rfl) (by kernel_rfl) (L_pickT (by kernel_rfl) (L_store b1 0 (.bool true) [(.bool false)] [(.bool true)] 4 (by kernel_rfl) (by kernel_rfl) rfl (by kernel_rfl) o_x0 (by simp) rfl ?_)))
      intro w66 hW67
      replace hb := hb.trans (hW67.below g_x0)
      replace hs := Nat.le_trans hs (Nat.le_of_eq hW67.size.symm)
      have n_o_cb7 := obj_wrote o_cb7 hW67 (obj_ne o_cb7 o_x0 (by simp))
      have n_o_x4 := obj_wrote o_x4 hW67 (obj_ne o_x4 o_x0 (by simp))
      have n_o_x6 := obj_wrote o_x6 hW67 (obj_ne o_x6 o_x0 (by simp))
      have n_o_cb47 := obj_wrote o_cb47 hW67 (obj_ne o_cb47 o_x0 (by simp))
      have n_o_D0 := obj_wrote o_D0 hW67 (obj_ne o_D0 o_x0 (by simp))
      have n_r_q23 := r_q23.wrote hW67 (r_q23.ne o_x0 (by simp))
      replace o_cb7 := n_o_cb7; clear n_o_cb7
      replace o_x4 := n_o_x4; clear n_o_x4
      replace o_x6 := n_o_x6; clear n_o_x6
      replace o_cb47 := n_o_cb47; clear n_o_cb47
      replace o_D0 := n_o_D0; clear n_o_D0
      replace r_q23 := n_r_q23; clear n_r_q23
      replace o_x0 := hW67.here
      refine L_nil (thenQ_normal (W_ret (end_retM (ds := [⟨.collected w44.heap.size, #[]⟩]) (by kernel_rfl) (Lv_mark o_D0 ?_))))
      intro w68 hW69
      replace hb := hb.trans (hW69.below hs_0)
      replace hs := Nat.le_trans hs (Nat.le_of_eq hW69.size.symm)
      have n_o_x0 := obj_wrote o_x0 hW69 (obj_ne o_x0 o_D0 (by simp))
      have n_o_cb7 := obj_wrote o_cb7 hW69 (obj_ne o_cb7 o_D0 (by simp))
      have n_o_x4 := obj_wrote o_x4 hW69 (obj_ne o_x4 o_D0 (by simp))
      have n_o_x6 := obj_wrote o_x6 hW69 (obj_ne o_x6 o_D0 (by simp))
      have n_o_cb47 := obj_wrote o_cb47 hW69 (obj_ne o_cb47 o_D0 (by simp))
      have n_r_q23 := r_q23.wrote hW69 (r_q23.ne o_D0 (by simp))
      replace o_x0 := n_o_x0; clear n_o_x0
      replace o_cb7 := n_o_cb7; clear n_o_cb7
      replace o_x4 := n_o_x4; clear n_o_x4
      replace o_x6 := n_o_x6; clear n_o_x6
      replace o_cb47 := n_o_cb47; clear n_o_cb47
      replace r_q23 := n_r_q23; clear n_r_q23
      replace o_D0 := hW69.here
      refine Lv_nil [.cell 0 4] [(.bool true)] rfl ⟨⟨⟨b1, 0, none⟩, by kernel_rfl, load_one (by kernel_rfl) (cell_obj o_x0 rfl)⟩, trivial⟩ ?_
      have e0 : true = true := by first | rfl | (exfalso; omega)
      exact ⟨congrArg Value.bool e0, hb⟩
    · intro h70
      replace h70 : n ≠ 1 := by omega
      exfalso; simp at pn; omega
  · intro K c _ x A _ h; exact h.elim

end Go.Proofs.Ythjgnnfonofgkaa
