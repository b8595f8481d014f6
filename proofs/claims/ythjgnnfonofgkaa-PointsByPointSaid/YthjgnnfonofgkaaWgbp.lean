/- Walks, written by my program walk.py out of the specification gbp.py: each theorem says what one function returns and that it leaves memory as it was. -/
import Derived.Test.YthjgnnfonofgkaaPStp
import Derived.Test.YthjgnnfonofgkaaWghex
import Derived.Test.YthjgnnfonofgkaaWgmS
import Derived.Test.YthjgnnfonofgkaaWgnS
import Derived.Test.YthjgnnfonofgkaaWgliv
import Derived.Test.YthjgnnfonofgkaaWgmI
import Derived.Test.YthjgnnfonofgkaaWgnI
import Derived.Test.YthjgnnfonofgkaaWggapI
import Derived.Test.YthjgnnfonofgkaaWgcov
import Derived.Test.YthjgnnfonofgkaaFKah
import Derived.Test.YthjgnnfonofgkaaProg
import Derived.Tactics2
import Derived.Test.YthjgnnfonofgkaaFKu
namespace Go.Proofs.Ythjgnnfonofgkaa
open Go Go.RowKit Go.FK
set_option linter.unusedVariables false
set_option linter.unusedSimpArgs false

theorem el46 : Elem Try.prog 46 4 1 1 := ⟨Try.underlying46, by kernel_rfl, rfl⟩
theorem el45 : Elem Try.prog 45 3 1 8 := ⟨Try.underlying45, by kernel_rfl, rfl⟩
theorem el40 : Elem Try.prog 40 21 1 4 := ⟨Try.underlying40, by kernel_rfl, rfl⟩
theorem el39 : Elem Try.prog 39 44 8 64 := ⟨Try.underlying39, by kernel_rfl, rfl⟩
set_option maxHeartbeats 4000000 in
set_option maxRecDepth 100000 in
theorem c_furrowlaw04_PointsByPoint (v_script : Value) (script : List (StepV)) (v_ask : Value) (ask : List (Int)) (w : World) (p_script : Rd w encStep v_script script) (p_ask : Rd w encI32 v_ask ask) {m_ml : Int} (hml : w.cell? ⟨0, 0, none⟩ = some (.int .i64 m_ml)) (hw : ∀ x ∈ script, (-2147483648 ≤ x.2.2.2.2.2.1.1 ∧ x.2.2.2.2.2.1.1 ≤ 2147483647) ∧ (-2147483648 ≤ x.2.2.2.2.2.1.2 ∧ x.2.2.2.2.2.1.2 ≤ 2147483647)) :
    Calls Try.prog 4 #[v_script, v_ask] w (Ret fun v w' => v = (.bool true) ∧ Below w.heap.size w w') := by
  refine enter (args := [v_script, v_ask]) Try.func4 rfl (by kernel_rfl : _ = 184) (by kernel_rfl) ?_
  have hb := Below.refl w.heap.size w
  have hs : w.heap.size ≤ w.heap.size := Nat.le_refl _
  have in_p_script := p_script
  have in_p_ask := p_ask
  refine W_seq (W_region (L_as (L_nil (thenQ_normal (W_seq (W_seq (W_region (L_mv (L_len 39 44 (script).length v_script rfl Try.underlying39 (p_script).len (by kernel_rfl) (L_cmp .i64 (((script).length : Nat) : Int) ((100 : Nat) : Int) (100 < (script).length) rfl (cmpN_gt ((script).length) 100) (by kernel_rfl) (by kernel_rfl) ?_ ?_))))))))))
  · intro h1
    replace h1 : 100 < (script).length := by omega
    refine L_mv (L_skip (by kernel_rfl) (L_skip (by kernel_rfl) (L_skip (by kernel_rfl) (L_pickT (by kernel_rfl) (L_mv (L_skip (by kernel_rfl) (L_skip (by kernel_rfl) (L_pickT (by kernel_rfl) (L_nil (thenQ_normal (W_true (by kernel_rfl) (W_seq (W_region (L_call 8 [] (by kernel_rfl) (by kernel_rfl) (c_lives  _ (gcell_below hml hb)) ?_))))))))))))))
    rintro _ w2 ⟨rfl, hB3⟩
    replace hb := hb.trans (hB3.mono hs)
    replace hs := Nat.le_trans hs (hB3.size)
    replace p_script := p_script.below hB3
    replace p_ask := p_ask.below hB3
    refine L_as (L_nil (thenQ_normal (W_ret (thenQ_ret ?_))))
    refine end_ret [.tmp 4] [(.bool true)] rfl rfl ⟨by kernel_rfl, trivial⟩ ?_
    have e0 : true = true := by first | rfl | exact Eq.symm (by assumption)
    exact ⟨congrArg Value.bool e0, hb⟩
  · intro h5
    replace h5 : (script).length ≤ 100 := by omega
    refine L_mv (L_want (by kernel_rfl) (L_mv (L_want (by kernel_rfl) (L_len 40 21 (ask).length v_ask rfl Try.underlying40 (p_ask).len (by kernel_rfl) (L_want (by kernel_rfl) (L_cmp .i64 (((ask).length : Nat) : Int) ((100 : Nat) : Int) (100 < (ask).length) rfl (cmpN_gt ((ask).length) 100) (by kernel_rfl) (by kernel_rfl) ?_ ?_))))))
    · intro h6
      replace h6 : 100 < (ask).length := by omega
      refine L_pickF (by kernel_rfl) (L_mv (L_skip (by kernel_rfl) (L_skip (by kernel_rfl) (L_pickT (by kernel_rfl) (L_nil (thenQ_normal (W_true (by kernel_rfl) (W_seq (W_region (L_call 8 [] (by kernel_rfl) (by kernel_rfl) (c_lives  _ (gcell_below hml hb)) ?_))))))))))
      rintro _ w7 ⟨rfl, hB8⟩
      replace hb := hb.trans (hB8.mono hs)
      replace hs := Nat.le_trans hs (hB8.size)
      replace p_script := p_script.below hB8
      replace p_ask := p_ask.below hB8
      refine L_as (L_nil (thenQ_normal (W_ret (thenQ_ret ?_))))
      refine end_ret [.tmp 4] [(.bool true)] rfl rfl ⟨by kernel_rfl, trivial⟩ ?_
      have e0 : true = true := by first | rfl | exact Eq.symm (by assumption)
      exact ⟨congrArg Value.bool e0, hb⟩
    · intro h10
      replace h10 : (ask).length ≤ 100 := by omega
      refine L_pickF (by kernel_rfl) (L_mv (L_want (by kernel_rfl) (L_call 8 [] (by kernel_rfl) (by kernel_rfl) (c_lives  _ (gcell_below hml hb)) ?_)))
      rintro _ w11 ⟨rfl, hB12⟩
      replace hb := hb.trans (hB12.mono hs)
      replace hs := Nat.le_trans hs (hB12.size)
      replace p_script := p_script.below hB12
      replace p_ask := p_ask.below hB12
      refine L_want (by kernel_rfl) (L_not true (by kernel_rfl) (L_pickF (by kernel_rfl) (L_nil (thenQ_normal (W_false (by kernel_rfl) (W_skip (thenQ_normal (W_seq (W_region (L_call 14 [] (by kernel_rfl) (by kernel_rfl) (c_new_I  _ ) ?_))))))))))
      rintro _ w14 ⟨cb17, rfl, o_cb17, g_cb17, hB15⟩
      replace g_cb17 := Nat.le_trans hs g_cb17
      replace hb := hb.trans (hB15.mono hs)
      replace hs := Nat.le_trans hs (hB15.size)
      replace p_script := p_script.below hB15
      replace p_ask := p_ask.below hB15
      refine L_as (L_nil (thenQ_normal (W_seq (W_seq (W_region (L_mv (L_run (.bool false) (by kernel_rfl) (by kernel_rfl) (L_nil (thenQ_normal (W_false (by kernel_rfl) (W_skip (thenQ_normal (W_seq (W_region (L_as (L_nil (thenQ_normal (W_seq (W_region (L_mv (L_mv (L_appAll el40 w.heap.size (.slice none 0 0) v_ask ([] : List (Int)) ask hs (Row.nil _ w.heap.size 21 1 encI32) p_ask (by first | omega | (simp only [List.length_append, List.length_cons, List.length_nil]; omega)) (fun _ => rfl) (fun _ => rfl) (by kernel_rfl) (by kernel_rfl) (by kernel_rfl) ?_))))))))))))))))))))))
      intro v18 w19 hr20 hg21 how22 
      replace hb := hb.grown hg21 hs (fun k hk => by simp [Value.ownBlock] at hk)
      replace hs := Nat.le_trans hs (hg21.size)
      replace o_cb17 := obj_grown o_cb17 hg21 (by simp [Value.ownBlock])
      have p_script := in_p_script.below hb
      have p_ask := in_p_ask.below hb
      have r_36 := hr20
      refine L_as (L_nil (thenQ_normal (W_seq (W_seq (W_region (L_as (L_nil (thenQ_normal (W_block ?_)))))))))
      refine W_loop (fun m s0 w0 => ∃ (i : Nat) (look : List Int) (v_6 : Value), (m = script.length - i) ∧ (s0.ds = []) ∧ (s0.f 0 = v_script) ∧ (s0.f 4 = (.bool false)) ∧ (s0.f 5 = (.pointer (some ⟨cb17, 0, none⟩))) ∧ (s0.f 6 = v_6) ∧ (s0.f 7 = (.int .i64 ((i : Nat) : Int))) ∧ (Rd w0 encStep v_script script) ∧ (Rd w0 encI32 v_ask ask) ∧ (Row w0 w.heap.size 21 1 encI32 v_6 look) ∧ (w0.heap[cb17]? = some (.cells [(.slice none 0 0), (.bool true)].toArray 109 (0, 0))) ∧ (Below w.heap.size w w0) ∧ (w.heap.size ≤ w0.heap.size) ∧ (i ≤ script.length) ∧ (look.length ≤ 100 + 4 * i)) _ ⟨0, (([] : List (Int)) ++ ask), v18, rfl, by kernel_rfl, by kernel_rfl, by kernel_rfl, by kernel_rfl, by kernel_rfl, by kernel_rfl, p_script, p_ask, r_36, o_cb17, hb, hs, (Nat.zero_le _), (by simp only [List.nil_append]; omega)⟩ ?_
      rintro m23 s24 w25 ⟨i, look, v_6, hm, hds, f_0, f_4, f_5, f_6, f_7, p_script, p_ask, r_6, o_cb17, hb, hs, i1, l1⟩
      refine W_set 0 _ f_0 (W_set 4 _ f_4 (W_set 5 _ f_5 (W_set 6 _ f_6 (W_set 7 _ f_7 ?_))))
      clear f_0 f_4 f_5 f_6 f_7
      refine W_seq (W_seq (W_region (L_mv (L_mv (L_len 39 44 (script).length v_script rfl Try.underlying39 (p_script).len (by kernel_rfl) (L_cmp .i64 ((i : Nat) : Int) (((script).length : Nat) : Int) (i < (script).length) rfl (cmpN_lt i ((script).length)) (by kernel_rfl) (by kernel_rfl) ?_ ?_))))))
      · intro h26
        replace h26 : i < (script).length := by omega
        refine L_nil (thenQ_normal (W_true (by kernel_rfl) (W_skip (thenQ_normal (W_seq (W_block (W_seq (W_region (L_mv (L_mv ?_))))))))))
        have hz := get_some script i (by first | omega | (simp only [List.length_replicate]; omega)); obtain ⟨x27, hx28⟩ := hz
        have hz := (p_script).at (k := 8) (fun _ => rfl) hx28
        obtain ⟨g29, off30, hl31, hc32⟩ := hz
        have hw_x27 := hw _ (List.mem_of_getElem? hx28)
        refine L_ixaddr (k := .i64) v_script i _ g29 off30 el39 hl31 (by first | omega | (simp only [List.length_replicate]; omega)) (by kernel_rfl) (by kernel_rfl) (L_run (.pointer (some ⟨g29, ((off30 + i * 8) + 5), none⟩)) (by kernel_rfl) (by kernel_rfl) (L_loadA g29 ((off30 + i * 8) + 5) [(.int .i32 x27.2.2.2.2.2.1.1), (.int .i32 x27.2.2.2.2.2.1.2)] (by kernel_rfl) (by kernel_rfl) (by kernel_rfl) (elem_mid [(.int .i64 x27.1), (.int .i64 x27.2.1), (.int .i64 x27.2.2.1), (.int .i64 x27.2.2.2.1), (.int .i64 x27.2.2.2.2.1)] [(S x27.2.2.2.2.2.2)] hc32 rfl) (L_new (fun b => .pointer (some ⟨b, 0, none⟩)) (.cells [(.int .i32 0), (.int .i32 0)].toArray 29 (0, 0)) (by kernel_rfl) (by kernel_rfl) ?_)))
        intro b33 w34 hN35
        have ne_cb17_x8 : cb17 ≠ b33 := by have := (obj_lt o_cb17); have := hN35.num; omega
        have ne_x8_cb17 := ne_cb17_x8.symm
        have g_x8 : w.heap.size ≤ b33 := by rw [hN35.num]; exact hs
        replace hb := hb.trans (hN35.below.mono hs)
        replace hs := Nat.le_trans hs (hN35.below.size)
        replace o_cb17 := obj_below o_cb17 hN35.below
        replace p_script := p_script.below hN35.below
        replace p_ask := p_ask.below hN35.below
        replace r_6 := r_6.below hN35.below
        have o_x8 := hN35.here
        refine L_storeA b33 0 [(.int .i32 x27.2.2.2.2.2.1.1), (.int .i32 x27.2.2.2.2.2.1.2)] [(.int .i32 0), (.int .i32 0)] [(.int .i32 x27.2.2.2.2.2.1.1), (.int .i32 x27.2.2.2.2.2.1.2)] 29 (by kernel_rfl) (by kernel_rfl) rfl (by kernel_rfl) o_x8 (by kernel_rfl) rfl ?_
        intro w36 hW37
        replace hb := hb.trans (hW37.below g_x8)
        replace hs := Nat.le_trans hs (Nat.le_of_eq hW37.size.symm)
        have n_o_cb17 := obj_wrote o_cb17 hW37 (obj_ne o_cb17 o_x8 (by simp))
        have n_p_script := in_p_script.below hb
        have n_p_ask := in_p_ask.below hb
        have n_r_6 := r_6.wrote hW37 (r_6.ne o_x8 (by simp))
        replace o_cb17 := n_o_cb17; clear n_o_cb17
        replace p_script := n_p_script; clear n_p_script
        replace p_ask := n_p_ask; clear n_p_ask
        replace r_6 := n_r_6; clear n_r_6
        replace o_x8 := hW37.here
        refine L_nil (thenQ_normal (W_region (L_mv (L_run (.pointer (some ⟨b33, 0, none⟩)) (by kernel_rfl) (by kernel_rfl) (L_load b33 0 (.int .i32 x27.2.2.2.2.2.1.1) (by kernel_rfl) (by kernel_rfl) (cell_obj o_x8 rfl) (L_arith x27.2.2.2.2.2.1.1 1 (IntKind.i32.wrap (x27.2.2.2.2.2.1.1 - 1)) rfl (by kernel_rfl) (by kernel_rfl) rfl (L_run (.pointer (some ⟨b33, 0, none⟩)) (by kernel_rfl) (by kernel_rfl) (L_load b33 0 (.int .i32 x27.2.2.2.2.2.1.1) (by kernel_rfl) (by kernel_rfl) (cell_obj o_x8 rfl) (L_run (.pointer (some ⟨b33, 1, none⟩)) (by kernel_rfl) (by kernel_rfl) (L_load b33 1 (.int .i32 x27.2.2.2.2.2.1.2) (by kernel_rfl) (by kernel_rfl) (cell_obj o_x8 rfl) (L_run (.pointer (some ⟨b33, 1, none⟩)) (by kernel_rfl) (by kernel_rfl) (L_load b33 1 (.int .i32 x27.2.2.2.2.2.1.2) (by kernel_rfl) (by kernel_rfl) (cell_obj o_x8 rfl) (L_arith x27.2.2.2.2.2.1.2 1 (IntKind.i32.wrap (x27.2.2.2.2.2.1.2 + 1)) rfl (by kernel_rfl) (by kernel_rfl) rfl (L_new (fun b => .slice (some ⟨b, 0, none⟩) 4 4) (.cells [(.int .i32 (IntKind.i32.wrap (x27.2.2.2.2.2.1.1 - 1))), (.int .i32 x27.2.2.2.2.2.1.1), (.int .i32 x27.2.2.2.2.2.1.2), (.int .i32 (IntKind.i32.wrap (x27.2.2.2.2.2.1.2 + 1)))].toArray 21 (0, 0)) (by kernel_rfl) (by kernel_rfl) ?_))))))))))))))
        intro b38 w39 hN40
        have g_b38 : w.heap.size ≤ b38 := by rw [hN40.num]; exact hs
        have ap_r_6_r_b38 : Value.ownBlock v_6 = none ∨ Value.ownBlock v_6 ≠ Value.ownBlock (.slice (some ⟨b38, 0, none⟩) 4 4) := .inr (r_6.new_ne hN40)
        have ap_r_b38_r_6 := ap_comm ap_r_6_r_b38
        replace hb := hb.trans (hN40.below.mono hs)
        replace hs := Nat.le_trans hs (hN40.below.size)
        replace o_cb17 := obj_below o_cb17 hN40.below
        replace o_x8 := obj_below o_x8 hN40.below
        replace p_script := p_script.below hN40.below
        replace p_ask := p_ask.below hN40.below
        replace r_6 := r_6.below hN40.below
        have r_b38 : Row w39 w.heap.size 21 1 encI32 (.slice (some ⟨b38, 0, none⟩) 4 4) ([(IntKind.i32.wrap (x27.2.2.2.2.2.1.1 - 1)), x27.2.2.2.2.2.1.1, x27.2.2.2.2.2.1.2, (IntKind.i32.wrap (x27.2.2.2.2.2.1.2 + 1))] : List (Int)) := Row.made ([(IntKind.i32.wrap (x27.2.2.2.2.2.1.1 - 1)), x27.2.2.2.2.2.1.1, x27.2.2.2.2.2.1.2, (IntKind.i32.wrap (x27.2.2.2.2.2.1.2 + 1))] : List (Int)) hN40 g_b38 rfl rfl (by first | decide | (simp; done))
        refine L_appAll el40 w.heap.size v_6 (.slice (some ⟨b38, 0, none⟩) 4 4) look ([(IntKind.i32.wrap (x27.2.2.2.2.2.1.1 - 1)), x27.2.2.2.2.2.1.1, x27.2.2.2.2.2.1.2, (IntKind.i32.wrap (x27.2.2.2.2.2.1.2 + 1))] : List (Int)) hs r_6 r_b38.rd (by first | omega | (simp only [List.length_append, List.length_cons, List.length_nil]; omega)) (fun _ => rfl) (fun _ => rfl) (by kernel_rfl) (by kernel_rfl) (by kernel_rfl) ?_
        intro v41 w42 hr43 hg44 how45 
        have nap_r_b38 := ap_app2 r_b38 how45 ap_r_b38_r_6
        replace hb := hb.grown hg44 hs (fun k hk => (World.ownsRow.lt r_6 k hk).1)
        replace hs := Nat.le_trans hs (hg44.size)
        have n_o_cb17 := obj_grown o_cb17 hg44 (r_6.ne o_cb17 (by simp))
        have n_o_x8 := obj_grown o_x8 hg44 (r_6.ne o_x8 (by simp))
        have n_p_script := in_p_script.below hb
        have n_p_ask := in_p_ask.below hb
        have n_r_b38 := r_b38.grown hg44 ap_r_b38_r_6
        replace o_cb17 := n_o_cb17; clear n_o_cb17
        replace o_x8 := n_o_x8; clear n_o_x8
        replace p_script := n_p_script; clear n_p_script
        replace p_ask := n_p_ask; clear n_p_ask
        replace r_b38 := n_r_b38; clear n_r_b38
        have ap_r_b38_r_6 := nap_r_b38
        have ap_r_6_r_b38 := ap_comm nap_r_b38
        replace r_6 := hr43
        refine L_as (L_nil (blkQ_normal (thenQ_normal (W_region (L_mv (L_addN i 1 (by omega) (by kernel_rfl) (by kernel_rfl) (L_as (L_nil ?_))))))))
        refine thenQ_normal ⟨_, ?_, (i + 1), (look ++ ([(IntKind.i32.wrap (x27.2.2.2.2.2.1.1 - 1)), x27.2.2.2.2.2.1.1, x27.2.2.2.2.2.1.2, (IntKind.i32.wrap (x27.2.2.2.2.2.1.2 + 1))] : List (Int))), v41, rfl, hds, by kernel_rfl, by kernel_rfl, by kernel_rfl, by kernel_rfl, by kernel_rfl, p_script, p_ask, r_6, o_cb17, hb, hs, ?_, ?_⟩
        · omega
        · omega
        · simp only [List.length_append, List.length_cons, List.length_nil]; omega
      · intro h46
        replace h46 : (script).length ≤ i := by omega
        refine L_nil (thenQ_normal (W_false (by kernel_rfl) (W_exit (thenQ_exit (thenQ_exit (blkQ_exit (thenQ_normal (W_seq (W_region (L_mv (L_len 40 21 (look).length v_6 rfl Try.underlying40 (r_6.rd).len (by kernel_rfl) (L_makeZ (enc := encInt) (m := (look).length) (kl := .i64) (kc := .i64) 0 (.int .i64 0) el45 (by kernel_rfl) rfl rfl (by kernel_rfl) (by kernel_rfl) (by first | omega | (simp only [List.length_replicate]; omega)) (by first | omega | (simp only [List.length_replicate]; omega)) ?_))))))))))))
        intro b47 w48 hN49
        have g_b47 : w.heap.size ≤ b47 := by rw [hN49.num]; exact hs
        replace hb := hb.trans (hN49.below.mono hs)
        replace hs := Nat.le_trans hs (hN49.below.size)
        replace o_cb17 := obj_below o_cb17 hN49.below
        replace p_script := p_script.below hN49.below
        replace p_ask := p_ask.below hN49.below
        replace r_6 := r_6.below hN49.below
        have r_b47 : Row w48 w.heap.size 3 1 encInt (.slice (some ⟨b47, 0, none⟩) (look).length (look).length) (List.replicate ((look).length) 0) := Row.madeZ (fun _ => rfl) hN49 g_b47 (by first | omega | (simp only [List.length_replicate]; omega))
        refine L_as (L_nil (thenQ_normal (W_seq (W_region (L_mv (L_len 40 21 (look).length v_6 rfl Try.underlying40 (r_6.rd).len (by kernel_rfl) (L_makeZ (enc := encBool) (m := (look).length) (kl := .i64) (kc := .i64) false (.bool false) el46 (by kernel_rfl) rfl rfl (by kernel_rfl) (by kernel_rfl) (by first | omega | (simp only [List.length_replicate]; omega)) (by first | omega | (simp only [List.length_replicate]; omega)) ?_)))))))
        intro b50 w51 hN52
        have g_b50 : w.heap.size ≤ b50 := by rw [hN52.num]; exact hs
        replace hb := hb.trans (hN52.below.mono hs)
        replace hs := Nat.le_trans hs (hN52.below.size)
        replace o_cb17 := obj_below o_cb17 hN52.below
        replace p_script := p_script.below hN52.below
        replace p_ask := p_ask.below hN52.below
        replace r_6 := r_6.below hN52.below
        replace r_b47 := r_b47.below hN52.below
        have r_b50 : Row w51 w.heap.size 4 1 encBool (.slice (some ⟨b50, 0, none⟩) (look).length (look).length) (List.replicate ((look).length) false) := Row.madeZ (fun _ => rfl) hN52 g_b50 (by first | omega | (simp only [List.length_replicate]; omega))
        refine L_as (L_nil (thenQ_normal (W_seq (W_seq (W_region (L_as (L_nil (thenQ_normal (W_block ?_)))))))))
        refine W_loop (fun m s0 w0 => ∃ (i : Nat) (am : List SpI) (val : List Int) (has : List Bool) (v_9 : Value) (v_10 : Value) (v_cb17_0 : Value), (m = script.length - i) ∧ (s0.ds = []) ∧ (s0.f 0 = v_script) ∧ (s0.f 4 = (.bool false)) ∧ (s0.f 5 = (.pointer (some ⟨cb17, 0, none⟩))) ∧ (s0.f 6 = v_6) ∧ (s0.f 9 = v_9) ∧ (s0.f 10 = v_10) ∧ (s0.f 11 = (.int .i64 ((i : Nat) : Int))) ∧ (Rd w0 encStep v_script script) ∧ (Rd w0 encI32 v_ask ask) ∧ (Row w0 w.heap.size 21 1 encI32 v_6 look) ∧ (Row w0 w.heap.size 3 1 encInt v_9 val) ∧ (Row w0 w.heap.size 4 1 encBool v_10 has) ∧ (Row w0 w.heap.size 113 3 encSpanI v_cb17_0 am) ∧ (w0.heap[cb17]? = some (.cells [v_cb17_0, (.bool true)].toArray 109 (0, 0))) ∧ (Below w.heap.size w w0) ∧ (w.heap.size ≤ w0.heap.size) ∧ (i ≤ script.length) ∧ (RiseG 0 am) ∧ (pointI am look val has) ∧ (look.length ≤ 1000)) _ ⟨0, [], (List.replicate ((look).length) 0), (List.replicate ((look).length) false), (.slice (some ⟨b47, 0, none⟩) (look).length (look).length), (.slice (some ⟨b50, 0, none⟩) (look).length (look).length), (.slice none 0 0), rfl, hds, by kernel_rfl, by kernel_rfl, by kernel_rfl, by kernel_rfl, by kernel_rfl, by kernel_rfl, by kernel_rfl, p_script, p_ask, r_6, r_b47, r_b50, Row.nil _ _ _ _ _, o_cb17, hb, hs, (Nat.zero_le _), trivial, (point_zero look), (by omega)⟩ ?_
        rintro m53 s54 w55 ⟨i, am, val, has, v_9, v_10, v_cb17_0, hm, hds, f_0, f_4, f_5, f_6, f_9, f_10, f_11, p_script, p_ask, r_6, r_9, r_10, r_cb17_0, o_cb17, hb, hs, i1, i2, i4, l1⟩
        refine W_set 0 _ f_0 (W_set 4 _ f_4 (W_set 5 _ f_5 (W_set 6 _ f_6 (W_set 9 _ f_9 (W_set 10 _ f_10 (W_set 11 _ f_11 ?_))))))
        clear f_0 f_4 f_5 f_6 f_9 f_10 f_11
        have hln := RiseG.len i2
        have hpl := point_lens i4
        refine W_seq (W_seq (W_region (L_mv (L_mv (L_len 39 44 (script).length v_script rfl Try.underlying39 (p_script).len (by kernel_rfl) (L_cmp .i64 ((i : Nat) : Int) (((script).length : Nat) : Int) (i < (script).length) rfl (cmpN_lt i ((script).length)) (by kernel_rfl) (by kernel_rfl) ?_ ?_))))))
        · intro h56
          replace h56 : i < (script).length := by omega
          refine L_nil (thenQ_normal (W_true (by kernel_rfl) (W_skip (thenQ_normal (W_seq (W_block (W_seq (W_region (L_mv (L_mv ?_))))))))))
          have hz := get_some script i (by first | omega | (simp only [List.length_replicate]; omega)); obtain ⟨x57, hx58⟩ := hz
          have hz := (p_script).at (k := 8) (fun _ => rfl) hx58
          obtain ⟨g59, off60, hl61, hc62⟩ := hz
          have hw_x57 := hw _ (List.mem_of_getElem? hx58)
          refine L_ixaddr (k := .i64) v_script i _ g59 off60 el39 hl61 (by first | omega | (simp only [List.length_replicate]; omega)) (by kernel_rfl) (by kernel_rfl) (L_run (.pointer (some ⟨g59, ((off60 + i * 8) + 5), none⟩)) (by kernel_rfl) (by kernel_rfl) (L_loadA g59 ((off60 + i * 8) + 5) [(.int .i32 x57.2.2.2.2.2.1.1), (.int .i32 x57.2.2.2.2.2.1.2)] (by kernel_rfl) (by kernel_rfl) (by kernel_rfl) (elem_mid [(.int .i64 x57.1), (.int .i64 x57.2.1), (.int .i64 x57.2.2.1), (.int .i64 x57.2.2.2.1), (.int .i64 x57.2.2.2.2.1)] [(S x57.2.2.2.2.2.2)] hc62 rfl) (L_new (fun b => .pointer (some ⟨b, 0, none⟩)) (.cells [(.int .i32 0), (.int .i32 0)].toArray 29 (0, 0)) (by kernel_rfl) (by kernel_rfl) ?_)))
          intro b63 w64 hN65
          have ne_cb17_x12 : cb17 ≠ b63 := by have := (obj_lt o_cb17); have := hN65.num; omega
          have ne_x12_cb17 := ne_cb17_x12.symm
          have g_x12 : w.heap.size ≤ b63 := by rw [hN65.num]; exact hs
          replace hb := hb.trans (hN65.below.mono hs)
          replace hs := Nat.le_trans hs (hN65.below.size)
          replace o_cb17 := obj_below o_cb17 hN65.below
          replace p_script := p_script.below hN65.below
          replace p_ask := p_ask.below hN65.below
          replace r_6 := r_6.below hN65.below
          replace r_9 := r_9.below hN65.below
          replace r_10 := r_10.below hN65.below
          replace r_cb17_0 := r_cb17_0.below hN65.below
          have o_x12 := hN65.here
          refine L_storeA b63 0 [(.int .i32 x57.2.2.2.2.2.1.1), (.int .i32 x57.2.2.2.2.2.1.2)] [(.int .i32 0), (.int .i32 0)] [(.int .i32 x57.2.2.2.2.2.1.1), (.int .i32 x57.2.2.2.2.2.1.2)] 29 (by kernel_rfl) (by kernel_rfl) rfl (by kernel_rfl) o_x12 (by kernel_rfl) rfl ?_
          intro w66 hW67
          replace hb := hb.trans (hW67.below g_x12)
          replace hs := Nat.le_trans hs (Nat.le_of_eq hW67.size.symm)
          have n_o_cb17 := obj_wrote o_cb17 hW67 (obj_ne o_cb17 o_x12 (by simp))
          have n_p_script := in_p_script.below hb
          have n_p_ask := in_p_ask.below hb
          have n_r_6 := r_6.wrote hW67 (r_6.ne o_x12 (by simp))
          have n_r_9 := r_9.wrote hW67 (r_9.ne o_x12 (by simp))
          have n_r_10 := r_10.wrote hW67 (r_10.ne o_x12 (by simp))
          have n_r_cb17_0 := r_cb17_0.wrote hW67 (r_cb17_0.ne o_x12 (by simp))
          replace o_cb17 := n_o_cb17; clear n_o_cb17
          replace p_script := n_p_script; clear n_p_script
          replace p_ask := n_p_ask; clear n_p_ask
          replace r_6 := n_r_6; clear n_r_6
          replace r_9 := n_r_9; clear n_r_9
          replace r_10 := n_r_10; clear n_r_10
          replace r_cb17_0 := n_r_cb17_0; clear n_r_cb17_0
          replace o_x12 := hW67.here
          refine L_nil (thenQ_normal (W_seq (W_region (L_as (L_nil (thenQ_normal (W_seq (W_seq (W_region (L_mv (L_mv ?_)))))))))))
          have hz := (p_script).at (k := 8) (fun _ => rfl) hx58
          obtain ⟨g70, off71, hl72, hc73⟩ := hz
          refine L_ixaddr (k := .i64) v_script i _ g70 off71 el39 hl72 (by first | omega | (simp only [List.length_replicate]; omega)) (by kernel_rfl) (by kernel_rfl) (L_run (.pointer (some ⟨g70, (off71 + i * 8), none⟩)) (by kernel_rfl) (by kernel_rfl) (L_load g70 (off71 + i * 8) (.int .i64 x57.1) (by kernel_rfl) (by kernel_rfl) (hc73 0 _ rfl) (L_nil (thenQ_normal (W_block (W_seq (W_region (L_cmp .i64 x57.1 0 (x57.1 = 0) rfl (cmp_eq x57.1 0) (by kernel_rfl) (by kernel_rfl) ?_ ?_))))))))
          · intro h74
            replace h74 : x57.1 = 0 := by omega
            refine L_as (L_nil (thenQ_normal (W_true (by kernel_rfl) (W_region (L_mv (L_loadA b63 0 [(.int .i32 x57.2.2.2.2.2.1.1), (.int .i32 x57.2.2.2.2.2.1.2)] (by kernel_rfl) (by kernel_rfl) (by kernel_rfl) (cells_at o_x12 0 (by kernel_rfl)) (L_mv (L_call 15 [(.pointer (some ⟨cb17, 0, none⟩)), (Value.agg #[(.int .i32 x57.2.2.2.2.2.1.1), (.int .i32 x57.2.2.2.2.2.1.2)]), (.int .i64 ((i : Nat) : Int))] (by kernel_rfl) (by kernel_rfl) (c_put_I cb17 v_cb17_0 am x57.2.2.2.2.2.1.1 x57.2.2.2.2.2.1.2 ((i : Nat) : Int) w.heap.size _ hs o_cb17 g_cb17 r_cb17_0 (by first | exact i2) (by first | omega | (simp only [List.length_replicate]; omega)) (by first | omega | (simp only [List.length_replicate]; omega))) ?_))))))))
            rintro _ w76 ⟨q75, rfl, ho79, r_q75, dm77, hC78⟩
            replace hb := hC78.below hb hs (fun k e => e.elim (fun x => x ▸ g_cb17) (fun x => (World.ownsRow.lt r_cb17_0 k x).1))
            replace hs := Nat.le_trans hs hC78.size
            have n_o_x12 := obj_ch_mut o_x12 hC78 (obj_ne o_x12 o_cb17 (by simp)) (r_cb17_0.ne o_x12 (by simp))
            have n_p_script := in_p_script.below hb
            have n_p_ask := in_p_ask.below hb
            have n_r_6 := r_6.ch_mut hC78 (r_6.ne o_cb17 (by simp)) (r_6.apart r_cb17_0 (by kernel_rfl))
            have n_r_9 := r_9.ch_mut hC78 (r_9.ne o_cb17 (by simp)) (r_9.apart r_cb17_0 (by kernel_rfl))
            have n_r_10 := r_10.ch_mut hC78 (r_10.ne o_cb17 (by simp)) (r_10.apart r_cb17_0 (by kernel_rfl))
            replace o_x12 := n_o_x12; clear n_o_x12
            replace p_script := n_p_script; clear n_p_script
            replace p_ask := n_p_ask; clear n_p_ask
            replace r_6 := n_r_6; clear n_r_6
            replace r_9 := n_r_9; clear n_r_9
            replace r_10 := n_r_10; clear n_r_10
            replace o_cb17 := ho79
            refine L_as (L_nil (blkQ_normal (thenQ_normal (W_seq (W_region (L_as (L_nil (thenQ_normal (W_block ?_)))))))))
            have hsm : stepM am (putF eqI am x57.2.2.2.2.2.1.1 x57.2.2.2.2.2.1.2 ((i : Nat) : Int)) (putE am x57.2.2.2.2.2.1.1 x57.2.2.2.2.2.1.2) x57.2.2.2.2.2.1.1 x57.2.2.2.2.2.1.2 ((i : Nat) : Int) true := by first | exact step_put i2 | exact step_lay i2 | exact step_cut i2
            refine W_loop (fun m s0 w0 => ∃ (k : Nat) (val : List Int) (has : List Bool) (v_9 : Value) (v_10 : Value), (m = look.length - k) ∧ (s0.ds = []) ∧ (s0.f 0 = v_script) ∧ (s0.f 4 = (.bool false)) ∧ (s0.f 5 = (.pointer (some ⟨cb17, 0, none⟩))) ∧ (s0.f 6 = v_6) ∧ (s0.f 11 = (.int .i64 ((i : Nat) : Int))) ∧ (s0.f 12 = (.pointer (some ⟨b63, 0, none⟩))) ∧ (s0.f 13 = (.int .i64 (putE am x57.2.2.2.2.2.1.1 x57.2.2.2.2.2.1.2))) ∧ (s0.f 9 = v_9) ∧ (s0.f 10 = v_10) ∧ (s0.f 14 = (.int .i64 ((k : Nat) : Int))) ∧ (Rd w0 encStep v_script script) ∧ (Rd w0 encI32 v_ask ask) ∧ (Row w0 w.heap.size 21 1 encI32 v_6 look) ∧ (Row w0 w.heap.size 113 3 encSpanI q75 (putF eqI am x57.2.2.2.2.2.1.1 x57.2.2.2.2.2.1.2 ((i : Nat) : Int))) ∧ (Row w0 w.heap.size 3 1 encInt v_9 val) ∧ (Row w0 w.heap.size 4 1 encBool v_10 has) ∧ (w0.heap[cb17]? = some (.cells [q75, (.bool true)].toArray 109 (0, 0))) ∧ (w0.heap[b63]? = some (.cells [(.int .i32 x57.2.2.2.2.2.1.1), (.int .i32 x57.2.2.2.2.2.1.2)].toArray 29 (0, 0))) ∧ (Below w.heap.size w w0) ∧ (w.heap.size ≤ w0.heap.size) ∧ (k ≤ look.length) ∧ (pointJ am (putF eqI am x57.2.2.2.2.2.1.1 x57.2.2.2.2.2.1.2 ((i : Nat) : Int)) look val has k)) _ ⟨0, val, has, v_9, v_10, rfl, hds, by kernel_rfl, by kernel_rfl, by kernel_rfl, by kernel_rfl, by kernel_rfl, by kernel_rfl, by kernel_rfl, by kernel_rfl, by kernel_rfl, by kernel_rfl, p_script, p_ask, r_6, r_q75, r_9, r_10, o_cb17, o_x12, hb, hs, (Nat.zero_le _), (point_start i4 _)⟩ ?_
            rintro m80 s81 w82 ⟨k, val, has, v_9, v_10, hm, hds, f_0, f_4, f_5, f_6, f_11, f_12, f_13, f_9, f_10, f_14, p_script, p_ask, r_6, r_q75, r_9, r_10, o_cb17, o_x12, hb, hs, j1, j4⟩
            refine W_set 0 _ f_0 (W_set 4 _ f_4 (W_set 5 _ f_5 (W_set 6 _ f_6 (W_set 11 _ f_11 (W_set 12 _ f_12 (W_set 13 _ f_13 (W_set 9 _ f_9 (W_set 10 _ f_10 (W_set 14 _ f_14 ?_)))))))))
            clear f_0 f_4 f_5 f_6 f_11 f_12 f_13 f_9 f_10 f_14
            have hpl := pointJ_lens j4
            refine W_seq (W_seq (W_region (L_mv (L_mv (L_len 40 21 (look).length v_6 rfl Try.underlying40 (r_6.rd).len (by kernel_rfl) (L_cmp .i64 ((k : Nat) : Int) (((look).length : Nat) : Int) (k < (look).length) rfl (cmpN_lt k ((look).length)) (by kernel_rfl) (by kernel_rfl) ?_ ?_))))))
            · intro h83
              replace h83 : k < (look).length := by omega
              refine L_nil (thenQ_normal (W_true (by kernel_rfl) (W_skip (thenQ_normal (W_seq (W_block (W_seq (W_quiet (by kernel_rfl) (by kernel_rfl) (Lq_mv (Lq_cmp .i64 (putE am x57.2.2.2.2.2.1.1 x57.2.2.2.2.2.1.2) 0 ((putE am x57.2.2.2.2.2.1.1 x57.2.2.2.2.2.1.2) = 0) rfl (cmp_eq (putE am x57.2.2.2.2.2.1.1 x57.2.2.2.2.2.1.2) 0) (by kernel_rfl) (by kernel_rfl) ?_ ?_))))))))))
              · intro h84
                replace h84 : (putE am x57.2.2.2.2.2.1.1 x57.2.2.2.2.2.1.2) = 0 := by omega
                refine Lq_mv (Lq_want (by kernel_rfl) (Lq_mv (Lq_want (by kernel_rfl) (Lq_mv (Lq_want (by kernel_rfl) ?_)))))
                have hz := get_some look k (by first | omega | (simp only [List.length_replicate]; omega)); obtain ⟨x85, hx86⟩ := hz
                have hz := (r_6.rd).at (k := 1) (fun _ => rfl) hx86
                obtain ⟨g87, off88, hl89, hc90⟩ := hz
                refine Lq_ixaddr (k := .i64) v_6 k _ g87 off88 el40 hl89 (by first | omega | (simp only [List.length_replicate]; omega)) (by kernel_rfl) (by kernel_rfl) (Lq_want (by kernel_rfl) (Lq_load g87 (off88 + k * 1) (.int .i32 x85) (by kernel_rfl) (fun _ => by kernel_rfl) (hc90 0 _ rfl) (Lq_want (by kernel_rfl) (Lq_run (.pointer (some ⟨b63, 0, none⟩)) (fun _ => by kernel_rfl) (Lq_want (by kernel_rfl) (Lq_load b63 0 (.int .i32 x57.2.2.2.2.2.1.1) (by kernel_rfl) (fun _ => by kernel_rfl) (cell_obj o_x12 rfl) (Lq_want (by kernel_rfl) (Lq_cmp .i32 x85 x57.2.2.2.2.2.1.1 (x57.2.2.2.2.2.1.1 ≤ x85) rfl (cmp_ge x85 x57.2.2.2.2.2.1.1) (by kernel_rfl) (by kernel_rfl) ?_ ?_))))))))
                · intro h91
                  replace h91 : x57.2.2.2.2.2.1.1 ≤ x85 := by omega
                  refine Lq_pickT (by kernel_rfl) (Lq_mv (Lq_want (by kernel_rfl) (Lq_mv (Lq_want (by kernel_rfl) (Lq_mv (Lq_want (by kernel_rfl) ?_))))))
                  have hz := (r_6.rd).at (k := 1) (fun _ => rfl) hx86
                  obtain ⟨g94, off95, hl96, hc97⟩ := hz
                  refine Lq_ixaddr (k := .i64) v_6 k _ g94 off95 el40 hl96 (by first | omega | (simp only [List.length_replicate]; omega)) (by kernel_rfl) (by kernel_rfl) (Lq_want (by kernel_rfl) (Lq_load g94 (off95 + k * 1) (.int .i32 x85) (by kernel_rfl) (fun _ => by kernel_rfl) (hc97 0 _ rfl) (Lq_want (by kernel_rfl) (Lq_run (.pointer (some ⟨b63, 1, none⟩)) (fun _ => by kernel_rfl) (Lq_want (by kernel_rfl) (Lq_load b63 1 (.int .i32 x57.2.2.2.2.2.1.2) (by kernel_rfl) (fun _ => by kernel_rfl) (cell_obj o_x12 rfl) (Lq_want (by kernel_rfl) (Lq_cmp .i32 x85 x57.2.2.2.2.2.1.2 (x85 ≤ x57.2.2.2.2.2.1.2) rfl (cmp_le x85 x57.2.2.2.2.2.1.2) (by kernel_rfl) (by kernel_rfl) ?_ ?_))))))))
                  · intro h98
                    replace h98 : x85 ≤ x57.2.2.2.2.2.1.2 := by omega
                    refine Lq_pickT (by kernel_rfl) (Lq_nil ?_)
                    intro w99 hB100
                    replace hb := hb.trans (hB100.mono hs)
                    replace hs := Nat.le_trans hs (hB100.size)
                    replace o_cb17 := obj_below o_cb17 hB100
                    replace o_x12 := obj_below o_x12 hB100
                    replace p_script := p_script.below hB100
                    replace p_ask := p_ask.below hB100
                    replace r_6 := r_6.below hB100
                    replace r_q75 := r_q75.below hB100
                    replace r_9 := r_9.below hB100
                    replace r_10 := r_10.below hB100
                    refine thenQ_normal (W_true (by kernel_rfl) (W_seq (W_region (L_mv (L_mv (L_mv ?_))))))
                    have hz := get_some val k (by first | omega | (simp only [List.length_replicate]; omega)); obtain ⟨x101, hx102⟩ := hz
                    have hz := (r_9.rd).at (k := 1) (fun _ => rfl) hx102
                    obtain ⟨g103, off104, hl105, hc106⟩ := hz
                    refine L_ixaddr (k := .i64) v_9 k _ g103 off104 el45 hl105 (by first | omega | (simp only [List.length_replicate]; omega)) (by kernel_rfl) (by kernel_rfl) (L_storeRow k 0 g103 off104 x101 ((i : Nat) : Int) (.int .i64 ((i : Nat) : Int)) r_9 (fun _ => rfl) hx102 hl105 (by kernel_rfl) (by kernel_rfl) rfl (by kernel_rfl) (by kernel_rfl) rfl ?_)
                    intro w107 hr108 hg109
                    replace hb := hb.grown hg109 hs (fun k hk => (World.ownsRow.lt r_9 k hk).1)
                    replace hs := Nat.le_trans hs (hg109.size)
                    have n_o_cb17 := obj_grown o_cb17 hg109 (r_9.ne o_cb17 (by simp))
                    have n_o_x12 := obj_grown o_x12 hg109 (r_9.ne o_x12 (by simp))
                    have n_p_script := in_p_script.below hb
                    have n_p_ask := in_p_ask.below hb
                    have n_r_6 := r_6.grown hg109 (r_6.apart r_9 (by kernel_rfl))
                    have n_r_q75 := r_q75.grown hg109 (r_q75.apart r_9 (by kernel_rfl))
                    have n_r_10 := r_10.grown hg109 (r_10.apart r_9 (by kernel_rfl))
                    replace o_cb17 := n_o_cb17; clear n_o_cb17
                    replace o_x12 := n_o_x12; clear n_o_x12
                    replace p_script := n_p_script; clear n_p_script
                    replace p_ask := n_p_ask; clear n_p_ask
                    replace r_6 := n_r_6; clear n_r_6
                    replace r_q75 := n_r_q75; clear n_r_q75
                    replace r_10 := n_r_10; clear n_r_10
                    replace r_9 := hr108
                    have hx110 : (List.set val k ((i : Nat) : Int))[k]? = some ((i : Nat) : Int) := set_here hx102
                    refine L_nil (thenQ_normal (W_region (L_mv (L_mv (L_mv (L_mv ?_))))))
                    have hz := (p_script).at (k := 8) (fun _ => rfl) hx58
                    obtain ⟨g113, off114, hl115, hc116⟩ := hz
                    refine L_ixaddr (k := .i64) v_script i _ g113 off114 el39 hl115 (by first | omega | (simp only [List.length_replicate]; omega)) (by kernel_rfl) (by kernel_rfl) (L_run (.pointer (some ⟨g113, (off114 + i * 8), none⟩)) (by kernel_rfl) (by kernel_rfl) (L_load g113 (off114 + i * 8) (.int .i64 x57.1) (by kernel_rfl) (by kernel_rfl) (hc116 0 _ rfl) (L_cmp .i64 x57.1 2 (x57.1 ≠ 2) rfl (cmp_ne x57.1 2) (by kernel_rfl) (by kernel_rfl) ?_ ?_)))
                    · intro h117
                      replace h117 : x57.1 ≠ 2 := by omega
                      have hz := get_some has k (by first | omega | (simp only [List.length_replicate]; omega)); obtain ⟨x118, hx119⟩ := hz
                      have hz := (r_10.rd).at (k := 1) (fun _ => rfl) hx119
                      obtain ⟨g120, off121, hl122, hc123⟩ := hz
                      refine L_ixaddr (k := .i64) v_10 k _ g120 off121 el46 hl122 (by first | omega | (simp only [List.length_replicate]; omega)) (by kernel_rfl) (by kernel_rfl) (L_storeRow k 0 g120 off121 x118 true (.bool true) r_10 (fun _ => rfl) hx119 hl122 (by kernel_rfl) (by kernel_rfl) rfl (by kernel_rfl) (by kernel_rfl) rfl ?_)
                      intro w124 hr125 hg126
                      replace hb := hb.grown hg126 hs (fun k hk => (World.ownsRow.lt r_10 k hk).1)
                      replace hs := Nat.le_trans hs (hg126.size)
                      have n_o_cb17 := obj_grown o_cb17 hg126 (r_10.ne o_cb17 (by simp))
                      have n_o_x12 := obj_grown o_x12 hg126 (r_10.ne o_x12 (by simp))
                      have n_p_script := in_p_script.below hb
                      have n_p_ask := in_p_ask.below hb
                      have n_r_6 := r_6.grown hg126 (r_6.apart r_10 (by kernel_rfl))
                      have n_r_q75 := r_q75.grown hg126 (r_q75.apart r_10 (by kernel_rfl))
                      have n_r_9 := r_9.grown hg126 (r_9.apart r_10 (by kernel_rfl))
                      replace o_cb17 := n_o_cb17; clear n_o_cb17
                      replace o_x12 := n_o_x12; clear n_o_x12
                      replace p_script := n_p_script; clear n_p_script
                      replace p_ask := n_p_ask; clear n_p_ask
                      replace r_6 := n_r_6; clear n_r_6
                      replace r_q75 := n_r_q75; clear n_r_q75
                      replace r_9 := n_r_9; clear n_r_9
                      replace r_10 := hr125
                      have hx127 : (List.set has k true)[k]? = some true := set_here hx119
                      refine L_nil (blkQ_normal (thenQ_normal (W_region (L_mv (L_addN k 1 (by omega) (by kernel_rfl) (by kernel_rfl) (L_as (L_nil ?_)))))))
                      refine thenQ_normal ⟨_, ?_, (k + 1), (List.set val k ((i : Nat) : Int)), (List.set has k true), v_9, v_10, rfl, hds, by kernel_rfl, by kernel_rfl, by kernel_rfl, by kernel_rfl, by kernel_rfl, by kernel_rfl, by kernel_rfl, by kernel_rfl, by kernel_rfl, by kernel_rfl, p_script, p_ask, r_6, r_q75, r_9, r_10, o_cb17, o_x12, hb, hs, ?_, ?_⟩
                      · omega
                      · omega
                      · first | exact point_hit j4 hsm (by assumption) (by assumption) (by omega) (by omega) rfl rfl | exact point_miss0 j4 hsm (by assumption) | exact point_miss j4 hsm (by assumption) (.inr (.inl (by omega))) | exact point_miss j4 hsm (by assumption) (.inr (.inr (by omega))) | (exfalso; omega)
                    · intro h128
                      replace h128 : x57.1 = 2 := by omega
                      have hz := get_some has k (by first | omega | (simp only [List.length_replicate]; omega)); obtain ⟨x129, hx130⟩ := hz
                      have hz := (r_10.rd).at (k := 1) (fun _ => rfl) hx130
                      obtain ⟨g131, off132, hl133, hc134⟩ := hz
                      refine L_ixaddr (k := .i64) v_10 k _ g131 off132 el46 hl133 (by first | omega | (simp only [List.length_replicate]; omega)) (by kernel_rfl) (by kernel_rfl) (L_storeRow k 0 g131 off132 x129 false (.bool false) r_10 (fun _ => rfl) hx130 hl133 (by kernel_rfl) (by kernel_rfl) rfl (by kernel_rfl) (by kernel_rfl) rfl ?_)
                      intro w135 hr136 hg137
                      replace hb := hb.grown hg137 hs (fun k hk => (World.ownsRow.lt r_10 k hk).1)
                      replace hs := Nat.le_trans hs (hg137.size)
                      have n_o_cb17 := obj_grown o_cb17 hg137 (r_10.ne o_cb17 (by simp))
                      have n_o_x12 := obj_grown o_x12 hg137 (r_10.ne o_x12 (by simp))
                      have n_p_script := in_p_script.below hb
                      have n_p_ask := in_p_ask.below hb
                      have n_r_6 := r_6.grown hg137 (r_6.apart r_10 (by kernel_rfl))
                      have n_r_q75 := r_q75.grown hg137 (r_q75.apart r_10 (by kernel_rfl))
                      have n_r_9 := r_9.grown hg137 (r_9.apart r_10 (by kernel_rfl))
                      replace o_cb17 := n_o_cb17; clear n_o_cb17
                      replace o_x12 := n_o_x12; clear n_o_x12
                      replace p_script := n_p_script; clear n_p_script
                      replace p_ask := n_p_ask; clear n_p_ask
                      replace r_6 := n_r_6; clear n_r_6
                      replace r_q75 := n_r_q75; clear n_r_q75
                      replace r_9 := n_r_9; clear n_r_9
                      replace r_10 := hr136
                      have hx138 : (List.set has k false)[k]? = some false := set_here hx130
                      refine L_nil (blkQ_normal (thenQ_normal (W_region (L_mv (L_addN k 1 (by omega) (by kernel_rfl) (by kernel_rfl) (L_as (L_nil ?_)))))))
                      refine thenQ_normal ⟨_, ?_, (k + 1), (List.set val k ((i : Nat) : Int)), (List.set has k false), v_9, v_10, rfl, hds, by kernel_rfl, by kernel_rfl, by kernel_rfl, by kernel_rfl, by kernel_rfl, by kernel_rfl, by kernel_rfl, by kernel_rfl, by kernel_rfl, by kernel_rfl, p_script, p_ask, r_6, r_q75, r_9, r_10, o_cb17, o_x12, hb, hs, ?_, ?_⟩
                      · omega
                      · omega
                      · first | exact point_hit j4 hsm (by assumption) (by assumption) (by omega) (by omega) rfl rfl | exact point_miss0 j4 hsm (by assumption) | exact point_miss j4 hsm (by assumption) (.inr (.inl (by omega))) | exact point_miss j4 hsm (by assumption) (.inr (.inr (by omega))) | (exfalso; omega)
                  · intro h139
                    replace h139 : x57.2.2.2.2.2.1.2 < x85 := by omega
                    refine Lq_pickT (by kernel_rfl) (Lq_nil ?_)
                    intro w140 hB141
                    replace hb := hb.trans (hB141.mono hs)
                    replace hs := Nat.le_trans hs (hB141.size)
                    replace o_cb17 := obj_below o_cb17 hB141
                    replace o_x12 := obj_below o_x12 hB141
                    replace p_script := p_script.below hB141
                    replace p_ask := p_ask.below hB141
                    replace r_6 := r_6.below hB141
                    replace r_q75 := r_q75.below hB141
                    replace r_9 := r_9.below hB141
                    replace r_10 := r_10.below hB141
                    refine thenQ_normal (W_false (by kernel_rfl) (W_skip (blkQ_normal (thenQ_normal (W_region (L_mv (L_addN k 1 (by omega) (by kernel_rfl) (by kernel_rfl) (L_as (L_nil ?_)))))))))
                    refine thenQ_normal ⟨_, ?_, (k + 1), val, has, v_9, v_10, rfl, hds, by kernel_rfl, by kernel_rfl, by kernel_rfl, by kernel_rfl, by kernel_rfl, by kernel_rfl, by kernel_rfl, by kernel_rfl, by kernel_rfl, by kernel_rfl, p_script, p_ask, r_6, r_q75, r_9, r_10, o_cb17, o_x12, hb, hs, ?_, ?_⟩
                    · omega
                    · omega
                    · first | exact point_hit j4 hsm (by assumption) (by assumption) (by omega) (by omega) rfl rfl | exact point_miss0 j4 hsm (by assumption) | exact point_miss j4 hsm (by assumption) (.inr (.inl (by omega))) | exact point_miss j4 hsm (by assumption) (.inr (.inr (by omega))) | (exfalso; omega)
                · intro h142
                  replace h142 : x85 < x57.2.2.2.2.2.1.1 := by omega
                  refine Lq_pickT (by kernel_rfl) (Lq_mv (Lq_skip (by kernel_rfl) (Lq_skip (by kernel_rfl) (Lq_skip (by kernel_rfl) (Lq_skip (by kernel_rfl) (Lq_skip (by kernel_rfl) (Lq_skip (by kernel_rfl) (Lq_skip (by kernel_rfl) (Lq_pickF (by kernel_rfl) (Lq_nil ?_))))))))))
                  intro w143 hB144
                  replace hb := hb.trans (hB144.mono hs)
                  replace hs := Nat.le_trans hs (hB144.size)
                  replace o_cb17 := obj_below o_cb17 hB144
                  replace o_x12 := obj_below o_x12 hB144
                  replace p_script := p_script.below hB144
                  replace p_ask := p_ask.below hB144
                  replace r_6 := r_6.below hB144
                  replace r_q75 := r_q75.below hB144
                  replace r_9 := r_9.below hB144
                  replace r_10 := r_10.below hB144
                  refine thenQ_normal (W_false (by kernel_rfl) (W_skip (blkQ_normal (thenQ_normal (W_region (L_mv (L_addN k 1 (by omega) (by kernel_rfl) (by kernel_rfl) (L_as (L_nil ?_)))))))))
                  refine thenQ_normal ⟨_, ?_, (k + 1), val, has, v_9, v_10, rfl, hds, by kernel_rfl, by kernel_rfl, by kernel_rfl, by kernel_rfl, by kernel_rfl, by kernel_rfl, by kernel_rfl, by kernel_rfl, by kernel_rfl, by kernel_rfl, p_script, p_ask, r_6, r_q75, r_9, r_10, o_cb17, o_x12, hb, hs, ?_, ?_⟩
                  · omega
                  · omega
                  · first | exact point_hit j4 hsm (by assumption) (by assumption) (by omega) (by omega) rfl rfl | exact point_miss0 j4 hsm (by assumption) | exact point_miss j4 hsm (by assumption) (.inr (.inl (by omega))) | exact point_miss j4 hsm (by assumption) (.inr (.inr (by omega))) | (exfalso; omega)
              · intro h145
                replace h145 : (putE am x57.2.2.2.2.2.1.1 x57.2.2.2.2.2.1.2) ≠ 0 := by omega
                refine Lq_mv (Lq_skip (by kernel_rfl) (Lq_skip (by kernel_rfl) (Lq_skip (by kernel_rfl) (Lq_skip (by kernel_rfl) (Lq_skip (by kernel_rfl) (Lq_skip (by kernel_rfl) (Lq_skip (by kernel_rfl) (Lq_pickF (by kernel_rfl) (Lq_mv (Lq_skip (by kernel_rfl) (Lq_skip (by kernel_rfl) (Lq_skip (by kernel_rfl) (Lq_skip (by kernel_rfl) (Lq_skip (by kernel_rfl) (Lq_skip (by kernel_rfl) (Lq_skip (by kernel_rfl) (Lq_pickF (by kernel_rfl) (Lq_nil ?_))))))))))))))))))
                intro w146 hB147
                replace hb := hb.trans (hB147.mono hs)
                replace hs := Nat.le_trans hs (hB147.size)
                replace o_cb17 := obj_below o_cb17 hB147
                replace o_x12 := obj_below o_x12 hB147
                replace p_script := p_script.below hB147
                replace p_ask := p_ask.below hB147
                replace r_6 := r_6.below hB147
                replace r_q75 := r_q75.below hB147
                replace r_9 := r_9.below hB147
                replace r_10 := r_10.below hB147
                refine thenQ_normal (W_false (by kernel_rfl) (W_skip (blkQ_normal (thenQ_normal (W_region (L_mv (L_addN k 1 (by omega) (by kernel_rfl) (by kernel_rfl) (L_as (L_nil ?_)))))))))
                refine thenQ_normal ⟨_, ?_, (k + 1), val, has, v_9, v_10, rfl, hds, by kernel_rfl, by kernel_rfl, by kernel_rfl, by kernel_rfl, by kernel_rfl, by kernel_rfl, by kernel_rfl, by kernel_rfl, by kernel_rfl, by kernel_rfl, p_script, p_ask, r_6, r_q75, r_9, r_10, o_cb17, o_x12, hb, hs, ?_, ?_⟩
                · omega
                · omega
                · first | exact point_hit j4 hsm (by assumption) (by assumption) (by omega) (by omega) rfl rfl | exact point_miss0 j4 hsm (by assumption) | exact point_miss j4 hsm (by assumption) (.inr (.inl (by omega))) | exact point_miss j4 hsm (by assumption) (.inr (.inr (by omega))) | (exfalso; omega)
            · intro h148
              replace h148 : (look).length ≤ k := by omega
              refine L_nil (thenQ_normal (W_false (by kernel_rfl) (W_exit (thenQ_exit (thenQ_exit (blkQ_exit (blkQ_normal (thenQ_normal (W_region (L_mv (L_addN i 1 (by omega) (by kernel_rfl) (by kernel_rfl) (L_as (L_nil ?_)))))))))))))
              refine thenQ_normal ⟨_, ?_, (i + 1), (putF eqI am x57.2.2.2.2.2.1.1 x57.2.2.2.2.2.1.2 ((i : Nat) : Int)), val, has, v_9, v_10, q75, rfl, hds, by kernel_rfl, by kernel_rfl, by kernel_rfl, by kernel_rfl, by kernel_rfl, by kernel_rfl, by kernel_rfl, p_script, p_ask, r_6, r_9, r_10, r_q75, o_cb17, hb, hs, ?_, ?_, ?_, ?_⟩
              · omega
              · omega
              · first | exact i2 | exact putF_rise i2 | exact layF_rise i2 | exact cutF_rise i2
              · first | exact i4 | exact point_end j4 (by omega)
              · exact l1
          · intro h149
            replace h149 : x57.1 ≠ 0 := by omega
            refine L_as (L_nil (thenQ_normal (W_false (by kernel_rfl) (W_seq (W_region (L_cmp .i64 x57.1 1 (x57.1 = 1) rfl (cmp_eq x57.1 1) (by kernel_rfl) (by kernel_rfl) ?_ ?_))))))
            · intro h150
              replace h150 : x57.1 = 1 := by omega
              refine L_as (L_nil (thenQ_normal (W_true (by kernel_rfl) (W_region (L_mv (L_loadA b63 0 [(.int .i32 x57.2.2.2.2.2.1.1), (.int .i32 x57.2.2.2.2.2.1.2)] (by kernel_rfl) (by kernel_rfl) (by kernel_rfl) (cells_at o_x12 0 (by kernel_rfl)) (L_mv (L_call 16 [(.pointer (some ⟨cb17, 0, none⟩)), (Value.agg #[(.int .i32 x57.2.2.2.2.2.1.1), (.int .i32 x57.2.2.2.2.2.1.2)]), (.int .i64 ((i : Nat) : Int))] (by kernel_rfl) (by kernel_rfl) (c_lay_I cb17 v_cb17_0 am x57.2.2.2.2.2.1.1 x57.2.2.2.2.2.1.2 ((i : Nat) : Int) w.heap.size _ hs o_cb17 g_cb17 r_cb17_0 (by first | exact i2) (by first | omega | (simp only [List.length_replicate]; omega)) (by first | omega | (simp only [List.length_replicate]; omega))) ?_))))))))
              rintro _ w152 ⟨q151, rfl, ho155, r_q151, dm153, hC154⟩
              replace hb := hC154.below hb hs (fun k e => e.elim (fun x => x ▸ g_cb17) (fun x => (World.ownsRow.lt r_cb17_0 k x).1))
              replace hs := Nat.le_trans hs hC154.size
              have n_o_x12 := obj_ch_mut o_x12 hC154 (obj_ne o_x12 o_cb17 (by simp)) (r_cb17_0.ne o_x12 (by simp))
              have n_p_script := in_p_script.below hb
              have n_p_ask := in_p_ask.below hb
              have n_r_6 := r_6.ch_mut hC154 (r_6.ne o_cb17 (by simp)) (r_6.apart r_cb17_0 (by kernel_rfl))
              have n_r_9 := r_9.ch_mut hC154 (r_9.ne o_cb17 (by simp)) (r_9.apart r_cb17_0 (by kernel_rfl))
              have n_r_10 := r_10.ch_mut hC154 (r_10.ne o_cb17 (by simp)) (r_10.apart r_cb17_0 (by kernel_rfl))
              replace o_x12 := n_o_x12; clear n_o_x12
              replace p_script := n_p_script; clear n_p_script
              replace p_ask := n_p_ask; clear n_p_ask
              replace r_6 := n_r_6; clear n_r_6
              replace r_9 := n_r_9; clear n_r_9
              replace r_10 := n_r_10; clear n_r_10
              replace o_cb17 := ho155
              refine L_as (L_nil (blkQ_normal (thenQ_normal (W_seq (W_region (L_as (L_nil (thenQ_normal (W_block ?_)))))))))
              have hsm : stepM am (layF eqI am x57.2.2.2.2.2.1.1 x57.2.2.2.2.2.1.2 ((i : Nat) : Int)) (layE x57.2.2.2.2.2.1.1 x57.2.2.2.2.2.1.2) x57.2.2.2.2.2.1.1 x57.2.2.2.2.2.1.2 ((i : Nat) : Int) true := by first | exact step_put i2 | exact step_lay i2 | exact step_cut i2
              refine W_loop (fun m s0 w0 => ∃ (k : Nat) (val : List Int) (has : List Bool) (v_9 : Value) (v_10 : Value), (m = look.length - k) ∧ (s0.ds = []) ∧ (s0.f 0 = v_script) ∧ (s0.f 4 = (.bool false)) ∧ (s0.f 5 = (.pointer (some ⟨cb17, 0, none⟩))) ∧ (s0.f 6 = v_6) ∧ (s0.f 11 = (.int .i64 ((i : Nat) : Int))) ∧ (s0.f 12 = (.pointer (some ⟨b63, 0, none⟩))) ∧ (s0.f 13 = (.int .i64 (layE x57.2.2.2.2.2.1.1 x57.2.2.2.2.2.1.2))) ∧ (s0.f 9 = v_9) ∧ (s0.f 10 = v_10) ∧ (s0.f 14 = (.int .i64 ((k : Nat) : Int))) ∧ (Rd w0 encStep v_script script) ∧ (Rd w0 encI32 v_ask ask) ∧ (Row w0 w.heap.size 21 1 encI32 v_6 look) ∧ (Row w0 w.heap.size 113 3 encSpanI q151 (layF eqI am x57.2.2.2.2.2.1.1 x57.2.2.2.2.2.1.2 ((i : Nat) : Int))) ∧ (Row w0 w.heap.size 3 1 encInt v_9 val) ∧ (Row w0 w.heap.size 4 1 encBool v_10 has) ∧ (w0.heap[cb17]? = some (.cells [q151, (.bool true)].toArray 109 (0, 0))) ∧ (w0.heap[b63]? = some (.cells [(.int .i32 x57.2.2.2.2.2.1.1), (.int .i32 x57.2.2.2.2.2.1.2)].toArray 29 (0, 0))) ∧ (Below w.heap.size w w0) ∧ (w.heap.size ≤ w0.heap.size) ∧ (k ≤ look.length) ∧ (pointJ am (layF eqI am x57.2.2.2.2.2.1.1 x57.2.2.2.2.2.1.2 ((i : Nat) : Int)) look val has k)) _ ⟨0, val, has, v_9, v_10, rfl, hds, by kernel_rfl, by kernel_rfl, by kernel_rfl, by kernel_rfl, by kernel_rfl, by kernel_rfl, by kernel_rfl, by kernel_rfl, by kernel_rfl, by kernel_rfl, p_script, p_ask, r_6, r_q151, r_9, r_10, o_cb17, o_x12, hb, hs, (Nat.zero_le _), (point_start i4 _)⟩ ?_
              rintro m156 s157 w158 ⟨k, val, has, v_9, v_10, hm, hds, f_0, f_4, f_5, f_6, f_11, f_12, f_13, f_9, f_10, f_14, p_script, p_ask, r_6, r_q151, r_9, r_10, o_cb17, o_x12, hb, hs, j1, j4⟩
              refine W_set 0 _ f_0 (W_set 4 _ f_4 (W_set 5 _ f_5 (W_set 6 _ f_6 (W_set 11 _ f_11 (W_set 12 _ f_12 (W_set 13 _ f_13 (W_set 9 _ f_9 (W_set 10 _ f_10 (W_set 14 _ f_14 ?_)))))))))
              clear f_0 f_4 f_5 f_6 f_11 f_12 f_13 f_9 f_10 f_14
              have hpl := pointJ_lens j4
              refine W_seq (W_seq (W_region (L_mv (L_mv (L_len 40 21 (look).length v_6 rfl Try.underlying40 (r_6.rd).len (by kernel_rfl) (L_cmp .i64 ((k : Nat) : Int) (((look).length : Nat) : Int) (k < (look).length) rfl (cmpN_lt k ((look).length)) (by kernel_rfl) (by kernel_rfl) ?_ ?_))))))
              · intro h159
                replace h159 : k < (look).length := by omega
                refine L_nil (thenQ_normal (W_true (by kernel_rfl) (W_skip (thenQ_normal (W_seq (W_block (W_seq (W_quiet (by kernel_rfl) (by kernel_rfl) (Lq_mv (Lq_cmp .i64 (layE x57.2.2.2.2.2.1.1 x57.2.2.2.2.2.1.2) 0 ((layE x57.2.2.2.2.2.1.1 x57.2.2.2.2.2.1.2) = 0) rfl (cmp_eq (layE x57.2.2.2.2.2.1.1 x57.2.2.2.2.2.1.2) 0) (by kernel_rfl) (by kernel_rfl) ?_ ?_))))))))))
                · intro h160
                  replace h160 : (layE x57.2.2.2.2.2.1.1 x57.2.2.2.2.2.1.2) = 0 := by omega
                  refine Lq_mv (Lq_want (by kernel_rfl) (Lq_mv (Lq_want (by kernel_rfl) (Lq_mv (Lq_want (by kernel_rfl) ?_)))))
                  have hz := get_some look k (by first | omega | (simp only [List.length_replicate]; omega)); obtain ⟨x161, hx162⟩ := hz
                  have hz := (r_6.rd).at (k := 1) (fun _ => rfl) hx162
                  obtain ⟨g163, off164, hl165, hc166⟩ := hz
                  refine Lq_ixaddr (k := .i64) v_6 k _ g163 off164 el40 hl165 (by first | omega | (simp only [List.length_replicate]; omega)) (by kernel_rfl) (by kernel_rfl) (Lq_want (by kernel_rfl) (Lq_load g163 (off164 + k * 1) (.int .i32 x161) (by kernel_rfl) (fun _ => by kernel_rfl) (hc166 0 _ rfl) (Lq_want (by kernel_rfl) (Lq_run (.pointer (some ⟨b63, 0, none⟩)) (fun _ => by kernel_rfl) (Lq_want (by kernel_rfl) (Lq_load b63 0 (.int .i32 x57.2.2.2.2.2.1.1) (by kernel_rfl) (fun _ => by kernel_rfl) (cell_obj o_x12 rfl) (Lq_want (by kernel_rfl) (Lq_cmp .i32 x161 x57.2.2.2.2.2.1.1 (x57.2.2.2.2.2.1.1 ≤ x161) rfl (cmp_ge x161 x57.2.2.2.2.2.1.1) (by kernel_rfl) (by kernel_rfl) ?_ ?_))))))))
                  · intro h167
                    replace h167 : x57.2.2.2.2.2.1.1 ≤ x161 := by omega
                    refine Lq_pickT (by kernel_rfl) (Lq_mv (Lq_want (by kernel_rfl) (Lq_mv (Lq_want (by kernel_rfl) (Lq_mv (Lq_want (by kernel_rfl) ?_))))))
                    have hz := (r_6.rd).at (k := 1) (fun _ => rfl) hx162
                    obtain ⟨g170, off171, hl172, hc173⟩ := hz
                    refine Lq_ixaddr (k := .i64) v_6 k _ g170 off171 el40 hl172 (by first | omega | (simp only [List.length_replicate]; omega)) (by kernel_rfl) (by kernel_rfl) (Lq_want (by kernel_rfl) (Lq_load g170 (off171 + k * 1) (.int .i32 x161) (by kernel_rfl) (fun _ => by kernel_rfl) (hc173 0 _ rfl) (Lq_want (by kernel_rfl) (Lq_run (.pointer (some ⟨b63, 1, none⟩)) (fun _ => by kernel_rfl) (Lq_want (by kernel_rfl) (Lq_load b63 1 (.int .i32 x57.2.2.2.2.2.1.2) (by kernel_rfl) (fun _ => by kernel_rfl) (cell_obj o_x12 rfl) (Lq_want (by kernel_rfl) (Lq_cmp .i32 x161 x57.2.2.2.2.2.1.2 (x161 ≤ x57.2.2.2.2.2.1.2) rfl (cmp_le x161 x57.2.2.2.2.2.1.2) (by kernel_rfl) (by kernel_rfl) ?_ ?_))))))))
                    · intro h174
                      replace h174 : x161 ≤ x57.2.2.2.2.2.1.2 := by omega
                      refine Lq_pickT (by kernel_rfl) (Lq_nil ?_)
                      intro w175 hB176
                      replace hb := hb.trans (hB176.mono hs)
                      replace hs := Nat.le_trans hs (hB176.size)
                      replace o_cb17 := obj_below o_cb17 hB176
                      replace o_x12 := obj_below o_x12 hB176
                      replace p_script := p_script.below hB176
                      replace p_ask := p_ask.below hB176
                      replace r_6 := r_6.below hB176
                      replace r_q151 := r_q151.below hB176
                      replace r_9 := r_9.below hB176
                      replace r_10 := r_10.below hB176
                      refine thenQ_normal (W_true (by kernel_rfl) (W_seq (W_region (L_mv (L_mv (L_mv ?_))))))
                      have hz := get_some val k (by first | omega | (simp only [List.length_replicate]; omega)); obtain ⟨x177, hx178⟩ := hz
                      have hz := (r_9.rd).at (k := 1) (fun _ => rfl) hx178
                      obtain ⟨g179, off180, hl181, hc182⟩ := hz
                      refine L_ixaddr (k := .i64) v_9 k _ g179 off180 el45 hl181 (by first | omega | (simp only [List.length_replicate]; omega)) (by kernel_rfl) (by kernel_rfl) (L_storeRow k 0 g179 off180 x177 ((i : Nat) : Int) (.int .i64 ((i : Nat) : Int)) r_9 (fun _ => rfl) hx178 hl181 (by kernel_rfl) (by kernel_rfl) rfl (by kernel_rfl) (by kernel_rfl) rfl ?_)
                      intro w183 hr184 hg185
                      replace hb := hb.grown hg185 hs (fun k hk => (World.ownsRow.lt r_9 k hk).1)
                      replace hs := Nat.le_trans hs (hg185.size)
                      have n_o_cb17 := obj_grown o_cb17 hg185 (r_9.ne o_cb17 (by simp))
                      have n_o_x12 := obj_grown o_x12 hg185 (r_9.ne o_x12 (by simp))
                      have n_p_script := in_p_script.below hb
                      have n_p_ask := in_p_ask.below hb
                      have n_r_6 := r_6.grown hg185 (r_6.apart r_9 (by kernel_rfl))
                      have n_r_q151 := r_q151.grown hg185 (r_q151.apart r_9 (by kernel_rfl))
                      have n_r_10 := r_10.grown hg185 (r_10.apart r_9 (by kernel_rfl))
                      replace o_cb17 := n_o_cb17; clear n_o_cb17
                      replace o_x12 := n_o_x12; clear n_o_x12
                      replace p_script := n_p_script; clear n_p_script
                      replace p_ask := n_p_ask; clear n_p_ask
                      replace r_6 := n_r_6; clear n_r_6
                      replace r_q151 := n_r_q151; clear n_r_q151
                      replace r_10 := n_r_10; clear n_r_10
                      replace r_9 := hr184
                      have hx186 : (List.set val k ((i : Nat) : Int))[k]? = some ((i : Nat) : Int) := set_here hx178
                      refine L_nil (thenQ_normal (W_region (L_mv (L_mv (L_mv (L_mv ?_))))))
                      have hz := (p_script).at (k := 8) (fun _ => rfl) hx58
                      obtain ⟨g189, off190, hl191, hc192⟩ := hz
                      refine L_ixaddr (k := .i64) v_script i _ g189 off190 el39 hl191 (by first | omega | (simp only [List.length_replicate]; omega)) (by kernel_rfl) (by kernel_rfl) (L_run (.pointer (some ⟨g189, (off190 + i * 8), none⟩)) (by kernel_rfl) (by kernel_rfl) (L_load g189 (off190 + i * 8) (.int .i64 x57.1) (by kernel_rfl) (by kernel_rfl) (hc192 0 _ rfl) (L_cmp .i64 x57.1 2 (x57.1 ≠ 2) rfl (cmp_ne x57.1 2) (by kernel_rfl) (by kernel_rfl) ?_ ?_)))
                      · intro h193
                        replace h193 : x57.1 ≠ 2 := by omega
                        have hz := get_some has k (by first | omega | (simp only [List.length_replicate]; omega)); obtain ⟨x194, hx195⟩ := hz
                        have hz := (r_10.rd).at (k := 1) (fun _ => rfl) hx195
                        obtain ⟨g196, off197, hl198, hc199⟩ := hz
                        refine L_ixaddr (k := .i64) v_10 k _ g196 off197 el46 hl198 (by first | omega | (simp only [List.length_replicate]; omega)) (by kernel_rfl) (by kernel_rfl) (L_storeRow k 0 g196 off197 x194 true (.bool true) r_10 (fun _ => rfl) hx195 hl198 (by kernel_rfl) (by kernel_rfl) rfl (by kernel_rfl) (by kernel_rfl) rfl ?_)
                        intro w200 hr201 hg202
                        replace hb := hb.grown hg202 hs (fun k hk => (World.ownsRow.lt r_10 k hk).1)
                        replace hs := Nat.le_trans hs (hg202.size)
                        have n_o_cb17 := obj_grown o_cb17 hg202 (r_10.ne o_cb17 (by simp))
                        have n_o_x12 := obj_grown o_x12 hg202 (r_10.ne o_x12 (by simp))
                        have n_p_script := in_p_script.below hb
                        have n_p_ask := in_p_ask.below hb
                        have n_r_6 := r_6.grown hg202 (r_6.apart r_10 (by kernel_rfl))
                        have n_r_q151 := r_q151.grown hg202 (r_q151.apart r_10 (by kernel_rfl))
                        have n_r_9 := r_9.grown hg202 (r_9.apart r_10 (by kernel_rfl))
                        replace o_cb17 := n_o_cb17; clear n_o_cb17
                        replace o_x12 := n_o_x12; clear n_o_x12
                        replace p_script := n_p_script; clear n_p_script
                        replace p_ask := n_p_ask; clear n_p_ask
                        replace r_6 := n_r_6; clear n_r_6
                        replace r_q151 := n_r_q151; clear n_r_q151
                        replace r_9 := n_r_9; clear n_r_9
                        replace r_10 := hr201
                        have hx203 : (List.set has k true)[k]? = some true := set_here hx195
                        refine L_nil (blkQ_normal (thenQ_normal (W_region (L_mv (L_addN k 1 (by omega) (by kernel_rfl) (by kernel_rfl) (L_as (L_nil ?_)))))))
                        refine thenQ_normal ⟨_, ?_, (k + 1), (List.set val k ((i : Nat) : Int)), (List.set has k true), v_9, v_10, rfl, hds, by kernel_rfl, by kernel_rfl, by kernel_rfl, by kernel_rfl, by kernel_rfl, by kernel_rfl, by kernel_rfl, by kernel_rfl, by kernel_rfl, by kernel_rfl, p_script, p_ask, r_6, r_q151, r_9, r_10, o_cb17, o_x12, hb, hs, ?_, ?_⟩
                        · omega
                        · omega
                        · first | exact point_hit j4 hsm (by assumption) (by assumption) (by omega) (by omega) rfl rfl | exact point_miss0 j4 hsm (by assumption) | exact point_miss j4 hsm (by assumption) (.inr (.inl (by omega))) | exact point_miss j4 hsm (by assumption) (.inr (.inr (by omega))) | (exfalso; omega)
                      · intro h204
                        replace h204 : x57.1 = 2 := by omega
                        have hz := get_some has k (by first | omega | (simp only [List.length_replicate]; omega)); obtain ⟨x205, hx206⟩ := hz
                        have hz := (r_10.rd).at (k := 1) (fun _ => rfl) hx206
                        obtain ⟨g207, off208, hl209, hc210⟩ := hz
                        refine L_ixaddr (k := .i64) v_10 k _ g207 off208 el46 hl209 (by first | omega | (simp only [List.length_replicate]; omega)) (by kernel_rfl) (by kernel_rfl) (L_storeRow k 0 g207 off208 x205 false (.bool false) r_10 (fun _ => rfl) hx206 hl209 (by kernel_rfl) (by kernel_rfl) rfl (by kernel_rfl) (by kernel_rfl) rfl ?_)
                        intro w211 hr212 hg213
                        replace hb := hb.grown hg213 hs (fun k hk => (World.ownsRow.lt r_10 k hk).1)
                        replace hs := Nat.le_trans hs (hg213.size)
                        have n_o_cb17 := obj_grown o_cb17 hg213 (r_10.ne o_cb17 (by simp))
                        have n_o_x12 := obj_grown o_x12 hg213 (r_10.ne o_x12 (by simp))
                        have n_p_script := in_p_script.below hb
                        have n_p_ask := in_p_ask.below hb
                        have n_r_6 := r_6.grown hg213 (r_6.apart r_10 (by kernel_rfl))
                        have n_r_q151 := r_q151.grown hg213 (r_q151.apart r_10 (by kernel_rfl))
                        have n_r_9 := r_9.grown hg213 (r_9.apart r_10 (by kernel_rfl))
                        replace o_cb17 := n_o_cb17; clear n_o_cb17
                        replace o_x12 := n_o_x12; clear n_o_x12
                        replace p_script := n_p_script; clear n_p_script
                        replace p_ask := n_p_ask; clear n_p_ask
                        replace r_6 := n_r_6; clear n_r_6
                        replace r_q151 := n_r_q151; clear n_r_q151
                        replace r_9 := n_r_9; clear n_r_9
                        replace r_10 := hr212
                        have hx214 : (List.set has k false)[k]? = some false := set_here hx206
                        refine L_nil (blkQ_normal (thenQ_normal (W_region (L_mv (L_addN k 1 (by omega) (by kernel_rfl) (by kernel_rfl) (L_as (L_nil ?_)))))))
                        refine thenQ_normal ⟨_, ?_, (k + 1), (List.set val k ((i : Nat) : Int)), (List.set has k false), v_9, v_10, rfl, hds, by kernel_rfl, by kernel_rfl, by kernel_rfl, by kernel_rfl, by kernel_rfl, by kernel_rfl, by kernel_rfl, by kernel_rfl, by kernel_rfl, by kernel_rfl, p_script, p_ask, r_6, r_q151, r_9, r_10, o_cb17, o_x12, hb, hs, ?_, ?_⟩
                        · omega
                        · omega
                        · first | exact point_hit j4 hsm (by assumption) (by assumption) (by omega) (by omega) rfl rfl | exact point_miss0 j4 hsm (by assumption) | exact point_miss j4 hsm (by assumption) (.inr (.inl (by omega))) | exact point_miss j4 hsm (by assumption) (.inr (.inr (by omega))) | (exfalso; omega)
                    · intro h215
                      replace h215 : x57.2.2.2.2.2.1.2 < x161 := by omega
                      refine Lq_pickT (by kernel_rfl) (Lq_nil ?_)
                      intro w216 hB217
                      replace hb := hb.trans (hB217.mono hs)
                      replace hs := Nat.le_trans hs (hB217.size)
                      replace o_cb17 := obj_below o_cb17 hB217
                      replace o_x12 := obj_below o_x12 hB217
                      replace p_script := p_script.below hB217
                      replace p_ask := p_ask.below hB217
                      replace r_6 := r_6.below hB217
                      replace r_q151 := r_q151.below hB217
                      replace r_9 := r_9.below hB217
                      replace r_10 := r_10.below hB217
                      refine thenQ_normal (W_false (by kernel_rfl) (W_skip (blkQ_normal (thenQ_normal (W_region (L_mv (L_addN k 1 (by omega) (by kernel_rfl) (by kernel_rfl) (L_as (L_nil ?_)))))))))
                      refine thenQ_normal ⟨_, ?_, (k + 1), val, has, v_9, v_10, rfl, hds, by kernel_rfl, by kernel_rfl, by kernel_rfl, by kernel_rfl, by kernel_rfl, by kernel_rfl, by kernel_rfl, by kernel_rfl, by kernel_rfl, by kernel_rfl, p_script, p_ask, r_6, r_q151, r_9, r_10, o_cb17, o_x12, hb, hs, ?_, ?_⟩
                      · omega
                      · omega
                      · first | exact point_hit j4 hsm (by assumption) (by assumption) (by omega) (by omega) rfl rfl | exact point_miss0 j4 hsm (by assumption) | exact point_miss j4 hsm (by assumption) (.inr (.inl (by omega))) | exact point_miss j4 hsm (by assumption) (.inr (.inr (by omega))) | (exfalso; omega)
                  · intro h218
                    replace h218 : x161 < x57.2.2.2.2.2.1.1 := by omega
                    refine Lq_pickT (by kernel_rfl) (Lq_mv (Lq_skip (by kernel_rfl) (Lq_skip (by kernel_rfl) (Lq_skip (by kernel_rfl) (Lq_skip (by kernel_rfl) (Lq_skip (by kernel_rfl) (Lq_skip (by kernel_rfl) (Lq_skip (by kernel_rfl) (Lq_pickF (by kernel_rfl) (Lq_nil ?_))))))))))
                    intro w219 hB220
                    replace hb := hb.trans (hB220.mono hs)
                    replace hs := Nat.le_trans hs (hB220.size)
                    replace o_cb17 := obj_below o_cb17 hB220
                    replace o_x12 := obj_below o_x12 hB220
                    replace p_script := p_script.below hB220
                    replace p_ask := p_ask.below hB220
                    replace r_6 := r_6.below hB220
                    replace r_q151 := r_q151.below hB220
                    replace r_9 := r_9.below hB220
                    replace r_10 := r_10.below hB220
                    refine thenQ_normal (W_false (by kernel_rfl) (W_skip (blkQ_normal (thenQ_normal (W_region (L_mv (L_addN k 1 (by omega) (by kernel_rfl) (by kernel_rfl) (L_as (L_nil ?_)))))))))
                    refine thenQ_normal ⟨_, ?_, (k + 1), val, has, v_9, v_10, rfl, hds, by kernel_rfl, by kernel_rfl, by kernel_rfl, by kernel_rfl, by kernel_rfl, by kernel_rfl, by kernel_rfl, by kernel_rfl, by kernel_rfl, by kernel_rfl, p_script, p_ask, r_6, r_q151, r_9, r_10, o_cb17, o_x12, hb, hs, ?_, ?_⟩
                    · omega
                    · omega
                    · first | exact point_hit j4 hsm (by assumption) (by assumption) (by omega) (by omega) rfl rfl | exact point_miss0 j4 hsm (by assumption) | exact point_miss j4 hsm (by assumption) (.inr (.inl (by omega))) | exact point_miss j4 hsm (by assumption) (.inr (.inr (by omega))) | (exfalso; omega)
                · intro h221
                  replace h221 : (layE x57.2.2.2.2.2.1.1 x57.2.2.2.2.2.1.2) ≠ 0 := by omega
                  refine Lq_mv (Lq_skip (by kernel_rfl) (Lq_skip (by kernel_rfl) (Lq_skip (by kernel_rfl) (Lq_skip (by kernel_rfl) (Lq_skip (by kernel_rfl) (Lq_skip (by kernel_rfl) (Lq_skip (by kernel_rfl) (Lq_pickF (by kernel_rfl) (Lq_mv (Lq_skip (by kernel_rfl) (Lq_skip (by kernel_rfl) (Lq_skip (by kernel_rfl) (Lq_skip (by kernel_rfl) (Lq_skip (by kernel_rfl) (Lq_skip (by kernel_rfl) (Lq_skip (by kernel_rfl) (Lq_pickF (by kernel_rfl) (Lq_nil ?_))))))))))))))))))
                  intro w222 hB223
                  replace hb := hb.trans (hB223.mono hs)
                  replace hs := Nat.le_trans hs (hB223.size)
                  replace o_cb17 := obj_below o_cb17 hB223
                  replace o_x12 := obj_below o_x12 hB223
                  replace p_script := p_script.below hB223
                  replace p_ask := p_ask.below hB223
                  replace r_6 := r_6.below hB223
                  replace r_q151 := r_q151.below hB223
                  replace r_9 := r_9.below hB223
                  replace r_10 := r_10.below hB223
                  refine thenQ_normal (W_false (by kernel_rfl) (W_skip (blkQ_normal (thenQ_normal (W_region (L_mv (L_addN k 1 (by omega) (by kernel_rfl) (by kernel_rfl) (L_as (L_nil ?_)))))))))
                  refine thenQ_normal ⟨_, ?_, (k + 1), val, has, v_9, v_10, rfl, hds, by kernel_rfl, by kernel_rfl, by kernel_rfl, by kernel_rfl, by kernel_rfl, by kernel_rfl, by kernel_rfl, by kernel_rfl, by kernel_rfl, by kernel_rfl, p_script, p_ask, r_6, r_q151, r_9, r_10, o_cb17, o_x12, hb, hs, ?_, ?_⟩
                  · omega
                  · omega
                  · first | exact point_hit j4 hsm (by assumption) (by assumption) (by omega) (by omega) rfl rfl | exact point_miss0 j4 hsm (by assumption) | exact point_miss j4 hsm (by assumption) (.inr (.inl (by omega))) | exact point_miss j4 hsm (by assumption) (.inr (.inr (by omega))) | (exfalso; omega)
              · intro h224
                replace h224 : (look).length ≤ k := by omega
                refine L_nil (thenQ_normal (W_false (by kernel_rfl) (W_exit (thenQ_exit (thenQ_exit (blkQ_exit (blkQ_normal (thenQ_normal (W_region (L_mv (L_addN i 1 (by omega) (by kernel_rfl) (by kernel_rfl) (L_as (L_nil ?_)))))))))))))
                refine thenQ_normal ⟨_, ?_, (i + 1), (layF eqI am x57.2.2.2.2.2.1.1 x57.2.2.2.2.2.1.2 ((i : Nat) : Int)), val, has, v_9, v_10, q151, rfl, hds, by kernel_rfl, by kernel_rfl, by kernel_rfl, by kernel_rfl, by kernel_rfl, by kernel_rfl, by kernel_rfl, p_script, p_ask, r_6, r_9, r_10, r_q151, o_cb17, hb, hs, ?_, ?_, ?_, ?_⟩
                · omega
                · omega
                · first | exact i2 | exact putF_rise i2 | exact layF_rise i2 | exact cutF_rise i2
                · first | exact i4 | exact point_end j4 (by omega)
                · exact l1
            · intro h225
              replace h225 : x57.1 ≠ 1 := by omega
              refine L_as (L_nil (thenQ_normal (W_false (by kernel_rfl) (W_seq (W_region (L_cmp .i64 x57.1 2 (x57.1 = 2) rfl (cmp_eq x57.1 2) (by kernel_rfl) (by kernel_rfl) ?_ ?_))))))
              · intro h226
                replace h226 : x57.1 = 2 := by omega
                refine L_as (L_nil (thenQ_normal (W_true (by kernel_rfl) (W_region (L_mv (L_loadA b63 0 [(.int .i32 x57.2.2.2.2.2.1.1), (.int .i32 x57.2.2.2.2.2.1.2)] (by kernel_rfl) (by kernel_rfl) (by kernel_rfl) (cells_at o_x12 0 (by kernel_rfl)) (L_call 17 [(.pointer (some ⟨cb17, 0, none⟩)), (Value.agg #[(.int .i32 x57.2.2.2.2.2.1.1), (.int .i32 x57.2.2.2.2.2.1.2)])] (by kernel_rfl) (by kernel_rfl) (c_cut_I cb17 v_cb17_0 am x57.2.2.2.2.2.1.1 x57.2.2.2.2.2.1.2 w.heap.size _ hs o_cb17 g_cb17 r_cb17_0 (by first | exact i2) (by first | omega | (simp only [List.length_replicate]; omega)) (by first | omega | (simp only [List.length_replicate]; omega))) ?_)))))))
                rintro _ w228 ⟨q227, rfl, ho231, r_q227, dm229, hC230⟩
                replace hb := hC230.below hb hs (fun k e => e.elim (fun x => x ▸ g_cb17) (fun x => (World.ownsRow.lt r_cb17_0 k x).1))
                replace hs := Nat.le_trans hs hC230.size
                have n_o_x12 := obj_ch_mut o_x12 hC230 (obj_ne o_x12 o_cb17 (by simp)) (r_cb17_0.ne o_x12 (by simp))
                have n_p_script := in_p_script.below hb
                have n_p_ask := in_p_ask.below hb
                have n_r_6 := r_6.ch_mut hC230 (r_6.ne o_cb17 (by simp)) (r_6.apart r_cb17_0 (by kernel_rfl))
                have n_r_9 := r_9.ch_mut hC230 (r_9.ne o_cb17 (by simp)) (r_9.apart r_cb17_0 (by kernel_rfl))
                have n_r_10 := r_10.ch_mut hC230 (r_10.ne o_cb17 (by simp)) (r_10.apart r_cb17_0 (by kernel_rfl))
                replace o_x12 := n_o_x12; clear n_o_x12
                replace p_script := n_p_script; clear n_p_script
                replace p_ask := n_p_ask; clear n_p_ask
                replace r_6 := n_r_6; clear n_r_6
                replace r_9 := n_r_9; clear n_r_9
                replace r_10 := n_r_10; clear n_r_10
                replace o_cb17 := ho231
                refine L_mv (L_run (.int .i64 (cutN am x57.2.2.2.2.2.1.1 x57.2.2.2.2.2.1.2)) (by kernel_rfl) (by kernel_rfl) (L_run (.int .i64 (layE x57.2.2.2.2.2.1.1 x57.2.2.2.2.2.1.2)) (by kernel_rfl) (by kernel_rfl) (L_as (L_nil (blkQ_normal (thenQ_normal (W_seq (W_region (L_as (L_nil (thenQ_normal (W_block ?_))))))))))))
                have hsm : stepM am (cutF am x57.2.2.2.2.2.1.1 x57.2.2.2.2.2.1.2) (layE x57.2.2.2.2.2.1.1 x57.2.2.2.2.2.1.2) x57.2.2.2.2.2.1.1 x57.2.2.2.2.2.1.2 ((i : Nat) : Int) false := by first | exact step_put i2 | exact step_lay i2 | exact step_cut i2
                refine W_loop (fun m s0 w0 => ∃ (k : Nat) (val : List Int) (has : List Bool) (v_9 : Value) (v_10 : Value), (m = look.length - k) ∧ (s0.ds = []) ∧ (s0.f 0 = v_script) ∧ (s0.f 4 = (.bool false)) ∧ (s0.f 5 = (.pointer (some ⟨cb17, 0, none⟩))) ∧ (s0.f 6 = v_6) ∧ (s0.f 11 = (.int .i64 ((i : Nat) : Int))) ∧ (s0.f 12 = (.pointer (some ⟨b63, 0, none⟩))) ∧ (s0.f 13 = (.int .i64 (layE x57.2.2.2.2.2.1.1 x57.2.2.2.2.2.1.2))) ∧ (s0.f 9 = v_9) ∧ (s0.f 10 = v_10) ∧ (s0.f 14 = (.int .i64 ((k : Nat) : Int))) ∧ (Rd w0 encStep v_script script) ∧ (Rd w0 encI32 v_ask ask) ∧ (Row w0 w.heap.size 21 1 encI32 v_6 look) ∧ (Row w0 w.heap.size 113 3 encSpanI q227 (cutF am x57.2.2.2.2.2.1.1 x57.2.2.2.2.2.1.2)) ∧ (Row w0 w.heap.size 3 1 encInt v_9 val) ∧ (Row w0 w.heap.size 4 1 encBool v_10 has) ∧ (w0.heap[cb17]? = some (.cells [q227, (.bool true)].toArray 109 (0, 0))) ∧ (w0.heap[b63]? = some (.cells [(.int .i32 x57.2.2.2.2.2.1.1), (.int .i32 x57.2.2.2.2.2.1.2)].toArray 29 (0, 0))) ∧ (Below w.heap.size w w0) ∧ (w.heap.size ≤ w0.heap.size) ∧ (k ≤ look.length) ∧ (pointJ am (cutF am x57.2.2.2.2.2.1.1 x57.2.2.2.2.2.1.2) look val has k)) _ ⟨0, val, has, v_9, v_10, rfl, hds, by kernel_rfl, by kernel_rfl, by kernel_rfl, by kernel_rfl, by kernel_rfl, by kernel_rfl, by kernel_rfl, by kernel_rfl, by kernel_rfl, by kernel_rfl, p_script, p_ask, r_6, r_q227, r_9, r_10, o_cb17, o_x12, hb, hs, (Nat.zero_le _), (point_start i4 _)⟩ ?_
                rintro m232 s233 w234 ⟨k, val, has, v_9, v_10, hm, hds, f_0, f_4, f_5, f_6, f_11, f_12, f_13, f_9, f_10, f_14, p_script, p_ask, r_6, r_q227, r_9, r_10, o_cb17, o_x12, hb, hs, j1, j4⟩
                refine W_set 0 _ f_0 (W_set 4 _ f_4 (W_set 5 _ f_5 (W_set 6 _ f_6 (W_set 11 _ f_11 (W_set 12 _ f_12 (W_set 13 _ f_13 (W_set 9 _ f_9 (W_set 10 _ f_10 (W_set 14 _ f_14 ?_)))))))))
                clear f_0 f_4 f_5 f_6 f_11 f_12 f_13 f_9 f_10 f_14
                have hpl := pointJ_lens j4
                refine W_seq (W_seq (W_region (L_mv (L_mv (L_len 40 21 (look).length v_6 rfl Try.underlying40 (r_6.rd).len (by kernel_rfl) (L_cmp .i64 ((k : Nat) : Int) (((look).length : Nat) : Int) (k < (look).length) rfl (cmpN_lt k ((look).length)) (by kernel_rfl) (by kernel_rfl) ?_ ?_))))))
                · intro h235
                  replace h235 : k < (look).length := by omega
                  refine L_nil (thenQ_normal (W_true (by kernel_rfl) (W_skip (thenQ_normal (W_seq (W_block (W_seq (W_quiet (by kernel_rfl) (by kernel_rfl) (Lq_mv (Lq_cmp .i64 (layE x57.2.2.2.2.2.1.1 x57.2.2.2.2.2.1.2) 0 ((layE x57.2.2.2.2.2.1.1 x57.2.2.2.2.2.1.2) = 0) rfl (cmp_eq (layE x57.2.2.2.2.2.1.1 x57.2.2.2.2.2.1.2) 0) (by kernel_rfl) (by kernel_rfl) ?_ ?_))))))))))
                  · intro h236
                    replace h236 : (layE x57.2.2.2.2.2.1.1 x57.2.2.2.2.2.1.2) = 0 := by omega
                    refine Lq_mv (Lq_want (by kernel_rfl) (Lq_mv (Lq_want (by kernel_rfl) (Lq_mv (Lq_want (by kernel_rfl) ?_)))))
                    have hz := get_some look k (by first | omega | (simp only [List.length_replicate]; omega)); obtain ⟨x237, hx238⟩ := hz
                    have hz := (r_6.rd).at (k := 1) (fun _ => rfl) hx238
                    obtain ⟨g239, off240, hl241, hc242⟩ := hz
                    refine Lq_ixaddr (k := .i64) v_6 k _ g239 off240 el40 hl241 (by first | omega | (simp only [List.length_replicate]; omega)) (by kernel_rfl) (by kernel_rfl) (Lq_want (by kernel_rfl) (Lq_load g239 (off240 + k * 1) (.int .i32 x237) (by kernel_rfl) (fun _ => by kernel_rfl) (hc242 0 _ rfl) (Lq_want (by kernel_rfl) (Lq_run (.pointer (some ⟨b63, 0, none⟩)) (fun _ => by kernel_rfl) (Lq_want (by kernel_rfl) (Lq_load b63 0 (.int .i32 x57.2.2.2.2.2.1.1) (by kernel_rfl) (fun _ => by kernel_rfl) (cell_obj o_x12 rfl) (Lq_want (by kernel_rfl) (Lq_cmp .i32 x237 x57.2.2.2.2.2.1.1 (x57.2.2.2.2.2.1.1 ≤ x237) rfl (cmp_ge x237 x57.2.2.2.2.2.1.1) (by kernel_rfl) (by kernel_rfl) ?_ ?_))))))))
                    · intro h243
                      replace h243 : x57.2.2.2.2.2.1.1 ≤ x237 := by omega
                      refine Lq_pickT (by kernel_rfl) (Lq_mv (Lq_want (by kernel_rfl) (Lq_mv (Lq_want (by kernel_rfl) (Lq_mv (Lq_want (by kernel_rfl) ?_))))))
                      have hz := (r_6.rd).at (k := 1) (fun _ => rfl) hx238
                      obtain ⟨g246, off247, hl248, hc249⟩ := hz
                      refine Lq_ixaddr (k := .i64) v_6 k _ g246 off247 el40 hl248 (by first | omega | (simp only [List.length_replicate]; omega)) (by kernel_rfl) (by kernel_rfl) (Lq_want (by kernel_rfl) (Lq_load g246 (off247 + k * 1) (.int .i32 x237) (by kernel_rfl) (fun _ => by kernel_rfl) (hc249 0 _ rfl) (Lq_want (by kernel_rfl) (Lq_run (.pointer (some ⟨b63, 1, none⟩)) (fun _ => by kernel_rfl) (Lq_want (by kernel_rfl) (Lq_load b63 1 (.int .i32 x57.2.2.2.2.2.1.2) (by kernel_rfl) (fun _ => by kernel_rfl) (cell_obj o_x12 rfl) (Lq_want (by kernel_rfl) (Lq_cmp .i32 x237 x57.2.2.2.2.2.1.2 (x237 ≤ x57.2.2.2.2.2.1.2) rfl (cmp_le x237 x57.2.2.2.2.2.1.2) (by kernel_rfl) (by kernel_rfl) ?_ ?_))))))))
                      · intro h250
                        replace h250 : x237 ≤ x57.2.2.2.2.2.1.2 := by omega
                        refine Lq_pickT (by kernel_rfl) (Lq_nil ?_)
                        intro w251 hB252
                        replace hb := hb.trans (hB252.mono hs)
                        replace hs := Nat.le_trans hs (hB252.size)
                        replace o_cb17 := obj_below o_cb17 hB252
                        replace o_x12 := obj_below o_x12 hB252
                        replace p_script := p_script.below hB252
                        replace p_ask := p_ask.below hB252
                        replace r_6 := r_6.below hB252
                        replace r_q227 := r_q227.below hB252
                        replace r_9 := r_9.below hB252
                        replace r_10 := r_10.below hB252
                        refine thenQ_normal (W_true (by kernel_rfl) (W_seq (W_region (L_mv (L_mv (L_mv ?_))))))
                        have hz := get_some val k (by first | omega | (simp only [List.length_replicate]; omega)); obtain ⟨x253, hx254⟩ := hz
                        have hz := (r_9.rd).at (k := 1) (fun _ => rfl) hx254
                        obtain ⟨g255, off256, hl257, hc258⟩ := hz
                        refine L_ixaddr (k := .i64) v_9 k _ g255 off256 el45 hl257 (by first | omega | (simp only [List.length_replicate]; omega)) (by kernel_rfl) (by kernel_rfl) (L_storeRow k 0 g255 off256 x253 ((i : Nat) : Int) (.int .i64 ((i : Nat) : Int)) r_9 (fun _ => rfl) hx254 hl257 (by kernel_rfl) (by kernel_rfl) rfl (by kernel_rfl) (by kernel_rfl) rfl ?_)
                        intro w259 hr260 hg261
                        replace hb := hb.grown hg261 hs (fun k hk => (World.ownsRow.lt r_9 k hk).1)
                        replace hs := Nat.le_trans hs (hg261.size)
                        have n_o_cb17 := obj_grown o_cb17 hg261 (r_9.ne o_cb17 (by simp))
                        have n_o_x12 := obj_grown o_x12 hg261 (r_9.ne o_x12 (by simp))
                        have n_p_script := in_p_script.below hb
                        have n_p_ask := in_p_ask.below hb
                        have n_r_6 := r_6.grown hg261 (r_6.apart r_9 (by kernel_rfl))
                        have n_r_q227 := r_q227.grown hg261 (r_q227.apart r_9 (by kernel_rfl))
                        have n_r_10 := r_10.grown hg261 (r_10.apart r_9 (by kernel_rfl))
                        replace o_cb17 := n_o_cb17; clear n_o_cb17
                        replace o_x12 := n_o_x12; clear n_o_x12
                        replace p_script := n_p_script; clear n_p_script
                        replace p_ask := n_p_ask; clear n_p_ask
                        replace r_6 := n_r_6; clear n_r_6
                        replace r_q227 := n_r_q227; clear n_r_q227
                        replace r_10 := n_r_10; clear n_r_10
                        replace r_9 := hr260
                        have hx262 : (List.set val k ((i : Nat) : Int))[k]? = some ((i : Nat) : Int) := set_here hx254
                        refine L_nil (thenQ_normal (W_region (L_mv (L_mv (L_mv (L_mv ?_))))))
                        have hz := (p_script).at (k := 8) (fun _ => rfl) hx58
                        obtain ⟨g265, off266, hl267, hc268⟩ := hz
                        refine L_ixaddr (k := .i64) v_script i _ g265 off266 el39 hl267 (by first | omega | (simp only [List.length_replicate]; omega)) (by kernel_rfl) (by kernel_rfl) (L_run (.pointer (some ⟨g265, (off266 + i * 8), none⟩)) (by kernel_rfl) (by kernel_rfl) (L_load g265 (off266 + i * 8) (.int .i64 x57.1) (by kernel_rfl) (by kernel_rfl) (hc268 0 _ rfl) (L_cmp .i64 x57.1 2 (x57.1 ≠ 2) rfl (cmp_ne x57.1 2) (by kernel_rfl) (by kernel_rfl) ?_ ?_)))
                        · intro h269
                          replace h269 : x57.1 ≠ 2 := by omega
                          have hz := get_some has k (by first | omega | (simp only [List.length_replicate]; omega)); obtain ⟨x270, hx271⟩ := hz
                          have hz := (r_10.rd).at (k := 1) (fun _ => rfl) hx271
                          obtain ⟨g272, off273, hl274, hc275⟩ := hz
                          refine L_ixaddr (k := .i64) v_10 k _ g272 off273 el46 hl274 (by first | omega | (simp only [List.length_replicate]; omega)) (by kernel_rfl) (by kernel_rfl) (L_storeRow k 0 g272 off273 x270 true (.bool true) r_10 (fun _ => rfl) hx271 hl274 (by kernel_rfl) (by kernel_rfl) rfl (by kernel_rfl) (by kernel_rfl) rfl ?_)
                          intro w276 hr277 hg278
                          replace hb := hb.grown hg278 hs (fun k hk => (World.ownsRow.lt r_10 k hk).1)
                          replace hs := Nat.le_trans hs (hg278.size)
                          have n_o_cb17 := obj_grown o_cb17 hg278 (r_10.ne o_cb17 (by simp))
                          have n_o_x12 := obj_grown o_x12 hg278 (r_10.ne o_x12 (by simp))
                          have n_p_script := in_p_script.below hb
                          have n_p_ask := in_p_ask.below hb
                          have n_r_6 := r_6.grown hg278 (r_6.apart r_10 (by kernel_rfl))
                          have n_r_q227 := r_q227.grown hg278 (r_q227.apart r_10 (by kernel_rfl))
                          have n_r_9 := r_9.grown hg278 (r_9.apart r_10 (by kernel_rfl))
                          replace o_cb17 := n_o_cb17; clear n_o_cb17
                          replace o_x12 := n_o_x12; clear n_o_x12
                          replace p_script := n_p_script; clear n_p_script
                          replace p_ask := n_p_ask; clear n_p_ask
                          replace r_6 := n_r_6; clear n_r_6
                          replace r_q227 := n_r_q227; clear n_r_q227
                          replace r_9 := n_r_9; clear n_r_9
                          replace r_10 := hr277
                          have hx279 : (List.set has k true)[k]? = some true := set_here hx271
                          refine L_nil (blkQ_normal (thenQ_normal (W_region (L_mv (L_addN k 1 (by omega) (by kernel_rfl) (by kernel_rfl) (L_as (L_nil ?_)))))))
                          refine thenQ_normal ⟨_, ?_, (k + 1), (List.set val k ((i : Nat) : Int)), (List.set has k true), v_9, v_10, rfl, hds, by kernel_rfl, by kernel_rfl, by kernel_rfl, by kernel_rfl, by kernel_rfl, by kernel_rfl, by kernel_rfl, by kernel_rfl, by kernel_rfl, by kernel_rfl, p_script, p_ask, r_6, r_q227, r_9, r_10, o_cb17, o_x12, hb, hs, ?_, ?_⟩
                          · omega
                          · omega
                          · first | exact point_hit j4 hsm (by assumption) (by assumption) (by omega) (by omega) rfl rfl | exact point_miss0 j4 hsm (by assumption) | exact point_miss j4 hsm (by assumption) (.inr (.inl (by omega))) | exact point_miss j4 hsm (by assumption) (.inr (.inr (by omega))) | (exfalso; omega)
                        · intro h280
                          replace h280 : x57.1 = 2 := by omega
                          have hz := get_some has k (by first | omega | (simp only [List.length_replicate]; omega)); obtain ⟨x281, hx282⟩ := hz
                          have hz := (r_10.rd).at (k := 1) (fun _ => rfl) hx282
                          obtain ⟨g283, off284, hl285, hc286⟩ := hz
                          refine L_ixaddr (k := .i64) v_10 k _ g283 off284 el46 hl285 (by first | omega | (simp only [List.length_replicate]; omega)) (by kernel_rfl) (by kernel_rfl) (L_storeRow k 0 g283 off284 x281 false (.bool false) r_10 (fun _ => rfl) hx282 hl285 (by kernel_rfl) (by kernel_rfl) rfl (by kernel_rfl) (by kernel_rfl) rfl ?_)
                          intro w287 hr288 hg289
                          replace hb := hb.grown hg289 hs (fun k hk => (World.ownsRow.lt r_10 k hk).1)
                          replace hs := Nat.le_trans hs (hg289.size)
                          have n_o_cb17 := obj_grown o_cb17 hg289 (r_10.ne o_cb17 (by simp))
                          have n_o_x12 := obj_grown o_x12 hg289 (r_10.ne o_x12 (by simp))
                          have n_p_script := in_p_script.below hb
                          have n_p_ask := in_p_ask.below hb
                          have n_r_6 := r_6.grown hg289 (r_6.apart r_10 (by kernel_rfl))
                          have n_r_q227 := r_q227.grown hg289 (r_q227.apart r_10 (by kernel_rfl))
                          have n_r_9 := r_9.grown hg289 (r_9.apart r_10 (by kernel_rfl))
                          replace o_cb17 := n_o_cb17; clear n_o_cb17
                          replace o_x12 := n_o_x12; clear n_o_x12
                          replace p_script := n_p_script; clear n_p_script
                          replace p_ask := n_p_ask; clear n_p_ask
                          replace r_6 := n_r_6; clear n_r_6
                          replace r_q227 := n_r_q227; clear n_r_q227
                          replace r_9 := n_r_9; clear n_r_9
                          replace r_10 := hr288
                          have hx290 : (List.set has k false)[k]? = some false := set_here hx282
                          refine L_nil (blkQ_normal (thenQ_normal (W_region (L_mv (L_addN k 1 (by omega) (by kernel_rfl) (by kernel_rfl) (L_as (L_nil ?_)))))))
                          refine thenQ_normal ⟨_, ?_, (k + 1), (List.set val k ((i : Nat) : Int)), (List.set has k false), v_9, v_10, rfl, hds, by kernel_rfl, by kernel_rfl, by kernel_rfl, by kernel_rfl, by kernel_rfl, by kernel_rfl, by kernel_rfl, by kernel_rfl, by kernel_rfl, by kernel_rfl, p_script, p_ask, r_6, r_q227, r_9, r_10, o_cb17, o_x12, hb, hs, ?_, ?_⟩
                          · omega
                          · omega
                          · first | exact point_hit j4 hsm (by assumption) (by assumption) (by omega) (by omega) rfl rfl | exact point_miss0 j4 hsm (by assumption) | exact point_miss j4 hsm (by assumption) (.inr (.inl (by omega))) | exact point_miss j4 hsm (by assumption) (.inr (.inr (by omega))) | (exfalso; omega)
                      · intro h291
                        replace h291 : x57.2.2.2.2.2.1.2 < x237 := by omega
                        refine Lq_pickT (by kernel_rfl) (Lq_nil ?_)
                        intro w292 hB293
                        replace hb := hb.trans (hB293.mono hs)
                        replace hs := Nat.le_trans hs (hB293.size)
                        replace o_cb17 := obj_below o_cb17 hB293
                        replace o_x12 := obj_below o_x12 hB293
                        replace p_script := p_script.below hB293
                        replace p_ask := p_ask.below hB293
                        replace r_6 := r_6.below hB293
                        replace r_q227 := r_q227.below hB293
                        replace r_9 := r_9.below hB293
                        replace r_10 := r_10.below hB293
                        refine thenQ_normal (W_false (by kernel_rfl) (W_skip (blkQ_normal (thenQ_normal (W_region (L_mv (L_addN k 1 (by omega) (by kernel_rfl) (by kernel_rfl) (L_as (L_nil ?_)))))))))
                        refine thenQ_normal ⟨_, ?_, (k + 1), val, has, v_9, v_10, rfl, hds, by kernel_rfl, by kernel_rfl, by kernel_rfl, by kernel_rfl, by kernel_rfl, by kernel_rfl, by kernel_rfl, by kernel_rfl, by kernel_rfl, by kernel_rfl, p_script, p_ask, r_6, r_q227, r_9, r_10, o_cb17, o_x12, hb, hs, ?_, ?_⟩
                        · omega
                        · omega
                        · first | exact point_hit j4 hsm (by assumption) (by assumption) (by omega) (by omega) rfl rfl | exact point_miss0 j4 hsm (by assumption) | exact point_miss j4 hsm (by assumption) (.inr (.inl (by omega))) | exact point_miss j4 hsm (by assumption) (.inr (.inr (by omega))) | (exfalso; omega)
                    · intro h294
                      replace h294 : x237 < x57.2.2.2.2.2.1.1 := by omega
                      refine Lq_pickT (by kernel_rfl) (Lq_mv (Lq_skip (by kernel_rfl) (Lq_skip (by kernel_rfl) (Lq_skip (by kernel_rfl) (Lq_skip (by kernel_rfl) (Lq_skip (by kernel_rfl) (Lq_skip (by kernel_rfl) (Lq_skip (by kernel_rfl) (Lq_pickF (by kernel_rfl) (Lq_nil ?_))))))))))
                      intro w295 hB296
                      replace hb := hb.trans (hB296.mono hs)
                      replace hs := Nat.le_trans hs (hB296.size)
                      replace o_cb17 := obj_below o_cb17 hB296
                      replace o_x12 := obj_below o_x12 hB296
                      replace p_script := p_script.below hB296
                      replace p_ask := p_ask.below hB296
                      replace r_6 := r_6.below hB296
                      replace r_q227 := r_q227.below hB296
                      replace r_9 := r_9.below hB296
                      replace r_10 := r_10.below hB296
                      refine thenQ_normal (W_false (by kernel_rfl) (W_skip (blkQ_normal (thenQ_normal (W_region (L_mv (L_addN k 1 (by omega) (by kernel_rfl) (by kernel_rfl) (L_as (L_nil ?_)))))))))
                      refine thenQ_normal ⟨_, ?_, (k + 1), val, has, v_9, v_10, rfl, hds, by kernel_rfl, by kernel_rfl, by kernel_rfl, by kernel_rfl, by kernel_rfl, by kernel_rfl, by kernel_rfl, by kernel_rfl, by kernel_rfl, by kernel_rfl, p_script, p_ask, r_6, r_q227, r_9, r_10, o_cb17, o_x12, hb, hs, ?_, ?_⟩
                      · omega
                      · omega
                      · first | exact point_hit j4 hsm (by assumption) (by assumption) (by omega) (by omega) rfl rfl | exact point_miss0 j4 hsm (by assumption) | exact point_miss j4 hsm (by assumption) (.inr (.inl (by omega))) | exact point_miss j4 hsm (by assumption) (.inr (.inr (by omega))) | (exfalso; omega)
                  · intro h297
                    replace h297 : (layE x57.2.2.2.2.2.1.1 x57.2.2.2.2.2.1.2) ≠ 0 := by omega
                    refine Lq_mv (Lq_skip (by kernel_rfl) (Lq_skip (by kernel_rfl) (Lq_skip (by kernel_rfl) (Lq_skip (by kernel_rfl) (Lq_skip (by kernel_rfl) (Lq_skip (by kernel_rfl) (Lq_skip (by kernel_rfl) (Lq_pickF (by kernel_rfl) (Lq_mv (Lq_skip (by kernel_rfl) (Lq_skip (by kernel_rfl) (Lq_skip (by kernel_rfl) (Lq_skip (by kernel_rfl) (Lq_skip (by kernel_rfl) (Lq_skip (by kernel_rfl) (Lq_skip (by kernel_rfl) (Lq_pickF (by kernel_rfl) (Lq_nil ?_))))))))))))))))))
                    intro w298 hB299
                    replace hb := hb.trans (hB299.mono hs)
                    replace hs := Nat.le_trans hs (hB299.size)
                    replace o_cb17 := obj_below o_cb17 hB299
                    replace o_x12 := obj_below o_x12 hB299
                    replace p_script := p_script.below hB299
                    replace p_ask := p_ask.below hB299
                    replace r_6 := r_6.below hB299
                    replace r_q227 := r_q227.below hB299
                    replace r_9 := r_9.below hB299
                    replace r_10 := r_10.below hB299
                    refine thenQ_normal (W_false (by kernel_rfl) (W_skip (blkQ_normal (thenQ_normal (W_region (L_mv (L_addN k 1 (by omega) (by kernel_rfl) (by kernel_rfl) (L_as (L_nil ?_)))))))))
                    refine thenQ_normal ⟨_, ?_, (k + 1), val, has, v_9, v_10, rfl, hds, by kernel_rfl, by kernel_rfl, by kernel_rfl, by kernel_rfl, by kernel_rfl, by kernel_rfl, by kernel_rfl, by kernel_rfl, by kernel_rfl, by kernel_rfl, p_script, p_ask, r_6, r_q227, r_9, r_10, o_cb17, o_x12, hb, hs, ?_, ?_⟩
                    · omega
                    · omega
                    · first | exact point_hit j4 hsm (by assumption) (by assumption) (by omega) (by omega) rfl rfl | exact point_miss0 j4 hsm (by assumption) | exact point_miss j4 hsm (by assumption) (.inr (.inl (by omega))) | exact point_miss j4 hsm (by assumption) (.inr (.inr (by omega))) | (exfalso; omega)
                · intro h300
                  replace h300 : (look).length ≤ k := by omega
                  refine L_nil (thenQ_normal (W_false (by kernel_rfl) (W_exit (thenQ_exit (thenQ_exit (blkQ_exit (blkQ_normal (thenQ_normal (W_region (L_mv (L_addN i 1 (by omega) (by kernel_rfl) (by kernel_rfl) (L_as (L_nil ?_)))))))))))))
                  refine thenQ_normal ⟨_, ?_, (i + 1), (cutF am x57.2.2.2.2.2.1.1 x57.2.2.2.2.2.1.2), val, has, v_9, v_10, q227, rfl, hds, by kernel_rfl, by kernel_rfl, by kernel_rfl, by kernel_rfl, by kernel_rfl, by kernel_rfl, by kernel_rfl, p_script, p_ask, r_6, r_9, r_10, r_q227, o_cb17, hb, hs, ?_, ?_, ?_, ?_⟩
                  · omega
                  · omega
                  · first | exact i2 | exact putF_rise i2 | exact layF_rise i2 | exact cutF_rise i2
                  · first | exact i4 | exact point_end j4 (by omega)
                  · exact l1
              · intro h301
                replace h301 : x57.1 ≠ 2 := by omega
                refine L_as (L_nil (thenQ_normal (W_false (by kernel_rfl) (W_exit (blkQ_exit_other (by kernel_rfl) (thenQ_exit (blkQ_exit (thenQ_normal (W_region (L_mv (L_addN i 1 (by omega) (by kernel_rfl) (by kernel_rfl) (L_as (L_nil ?_)))))))))))))
                refine thenQ_normal ⟨_, ?_, (i + 1), am, val, has, v_9, v_10, v_cb17_0, rfl, hds, by kernel_rfl, by kernel_rfl, by kernel_rfl, by kernel_rfl, by kernel_rfl, by kernel_rfl, by kernel_rfl, p_script, p_ask, r_6, r_9, r_10, r_cb17_0, o_cb17, hb, hs, ?_, ?_, ?_, ?_⟩
                · omega
                · omega
                · first | exact i2 | exact putF_rise i2 | exact layF_rise i2 | exact cutF_rise i2
                · first | exact i4 | exact point_end j4 (by omega)
                · exact l1
        · intro h302
          replace h302 : (script).length ≤ i := by omega
          refine L_nil (thenQ_normal (W_false (by kernel_rfl) (W_exit (thenQ_exit (thenQ_exit (blkQ_exit (thenQ_normal (W_seq (W_seq (W_region (L_as (L_nil (thenQ_normal (W_block ?_))))))))))))))
          refine W_loop (fun m s0 w0 => ∃ (k : Nat), (m = look.length - k) ∧ (s0.ds = []) ∧ (s0.f 5 = (.pointer (some ⟨cb17, 0, none⟩))) ∧ (s0.f 6 = v_6) ∧ (s0.f 9 = v_9) ∧ (s0.f 10 = v_10) ∧ (s0.f 15 = (.int .i64 ((k : Nat) : Int))) ∧ (Rd w0 encStep v_script script) ∧ (Rd w0 encI32 v_ask ask) ∧ (Row w0 w.heap.size 21 1 encI32 v_6 look) ∧ (Row w0 w.heap.size 3 1 encInt v_9 val) ∧ (Row w0 w.heap.size 4 1 encBool v_10 has) ∧ (Row w0 w.heap.size 113 3 encSpanI v_cb17_0 am) ∧ (w0.heap[cb17]? = some (.cells [v_cb17_0, (.bool true)].toArray 109 (0, 0))) ∧ (Below w.heap.size w w0) ∧ (w.heap.size ≤ w0.heap.size) ∧ (k ≤ look.length)) _ ⟨0, rfl, hds, by kernel_rfl, by kernel_rfl, by kernel_rfl, by kernel_rfl, by kernel_rfl, p_script, p_ask, r_6, r_9, r_10, r_cb17_0, o_cb17, hb, hs, (Nat.zero_le _)⟩ ?_
          rintro m303 s304 w305 ⟨k, hm, hds, f_5, f_6, f_9, f_10, f_15, p_script, p_ask, r_6, r_9, r_10, r_cb17_0, o_cb17, hb, hs, k1⟩
          refine W_set 5 _ f_5 (W_set 6 _ f_6 (W_set 9 _ f_9 (W_set 10 _ f_10 (W_set 15 _ f_15 ?_))))
          clear f_5 f_6 f_9 f_10 f_15
          have hpl := point_lens i4
          refine W_seq (W_seq (W_region (L_mv (L_mv (L_len 40 21 (look).length v_6 rfl Try.underlying40 (r_6.rd).len (by kernel_rfl) (L_cmp .i64 ((k : Nat) : Int) (((look).length : Nat) : Int) (k < (look).length) rfl (cmpN_lt k ((look).length)) (by kernel_rfl) (by kernel_rfl) ?_ ?_))))))
          · intro h306
            replace h306 : k < (look).length := by omega
            refine L_nil (thenQ_normal (W_true (by kernel_rfl) (W_skip (thenQ_normal (W_seq (W_block (W_seq (W_region (L_mv (L_mv (L_mv ?_)))))))))))
            have hz := get_some look k (by first | omega | (simp only [List.length_replicate]; omega)); obtain ⟨x307, hx308⟩ := hz
            have hz := (r_6.rd).at (k := 1) (fun _ => rfl) hx308
            obtain ⟨g309, off310, hl311, hc312⟩ := hz
            refine L_ixaddr (k := .i64) v_6 k _ g309 off310 el40 hl311 (by first | omega | (simp only [List.length_replicate]; omega)) (by kernel_rfl) (by kernel_rfl) (L_load g309 (off310 + k * 1) (.int .i32 x307) (by kernel_rfl) (by kernel_rfl) (hc312 0 _ rfl) (L_call 18 [(.pointer (some ⟨cb17, 0, none⟩)), (.int .i32 x307)] (by kernel_rfl) (by kernel_rfl) (c_at_I cb17 v_cb17_0 am x307 _ o_cb17 r_cb17_0.rd (by first | exact i2)) ?_))
            rintro _ w313 ⟨rfl, hB314⟩
            replace hb := hb.trans (hB314.mono hs)
            replace hs := Nat.le_trans hs (hB314.size)
            replace o_cb17 := obj_below o_cb17 hB314
            replace p_script := p_script.below hB314
            replace p_ask := p_ask.below hB314
            replace r_6 := r_6.below hB314
            replace r_9 := r_9.below hB314
            replace r_10 := r_10.below hB314
            replace r_cb17_0 := r_cb17_0.below hB314
            refine L_mv (L_run (.int .i64 ((atG 0 am x307).1)) (by kernel_rfl) (by kernel_rfl) (L_run (.bool ((atG 0 am x307).2)) (by kernel_rfl) (by kernel_rfl) (put_split ((atG 0 am x307).2) ?_ ?_)))
            · intro h316
              refine L_as (L_as (L_nil (thenQ_normal (W_seq (W_region (L_mv (L_mv (L_mv ?_))))))))
              have hz := get_some has k (by first | omega | (simp only [List.length_replicate]; omega)); obtain ⟨x317, hx318⟩ := hz
              have hz := (r_10.rd).at (k := 1) (fun _ => rfl) hx318
              obtain ⟨g319, off320, hl321, hc322⟩ := hz
              refine L_ixaddr (k := .i64) v_10 k _ g319 off320 el46 hl321 (by first | omega | (simp only [List.length_replicate]; omega)) (by kernel_rfl) (by kernel_rfl) (L_load g319 (off320 + k * 1) (.bool x317) (by kernel_rfl) (by kernel_rfl) (hc322 0 _ rfl) (L_bNe true x317 (by kernel_rfl) (by kernel_rfl) (fun c e => by cases c <;> cases e <;> kernel_rfl) ?_ ?_))
              · intro h323
                exfalso; exact h323 (Eq.trans (Eq.symm (by assumption)) (point_has i4 i2 (by assumption) (by assumption)))
              · intro h324
                refine L_mv (L_want (by kernel_rfl) (L_mv (L_want (by kernel_rfl) (L_mv (L_want (by kernel_rfl) (L_mv (L_want (by kernel_rfl) (L_mv (L_want (by kernel_rfl) (L_mv (L_want (by kernel_rfl) ?_)))))))))))
                have hz := get_some val k (by first | omega | (simp only [List.length_replicate]; omega)); obtain ⟨x325, hx326⟩ := hz
                have hz := (r_9.rd).at (k := 1) (fun _ => rfl) hx326
                obtain ⟨g327, off328, hl329, hc330⟩ := hz
                refine L_ixaddr (k := .i64) v_9 k _ g327 off328 el45 hl329 (by first | omega | (simp only [List.length_replicate]; omega)) (by kernel_rfl) (by kernel_rfl) (L_want (by kernel_rfl) (L_load g327 (off328 + k * 1) (.int .i64 x325) (by kernel_rfl) (by kernel_rfl) (hc330 0 _ rfl) (L_want (by kernel_rfl) (L_cmp .i64 ((atG 0 am x307).1) x325 ((atG 0 am x307).1 ≠ x325) rfl (cmp_ne ((atG 0 am x307).1) x325) (by kernel_rfl) (by kernel_rfl) ?_ ?_))))
                · intro h331
                  replace h331 : (atG 0 am x307).1 ≠ x325 := by omega
                  exfalso; exact h331 (point_val i4 i2 (by assumption) (by assumption) (by assumption))
                · intro h332
                  replace h332 : (atG 0 am x307).1 = x325 := by omega
                  refine L_want (by kernel_rfl) (L_pickT (by kernel_rfl) (L_pickF (by kernel_rfl) (L_mv (L_want (by kernel_rfl) (L_mv (L_want (by kernel_rfl) (L_not true (by kernel_rfl) (L_want (by kernel_rfl) (L_mv (L_skip (by kernel_rfl) (L_skip (by kernel_rfl) (L_want (by kernel_rfl) (L_pickF (by kernel_rfl) (L_pickF (by kernel_rfl) (L_nil (thenQ_normal (W_false (by kernel_rfl) (W_skip (blkQ_normal (thenQ_normal (W_region (L_mv (L_addN k 1 (by omega) (by kernel_rfl) (by kernel_rfl) (L_as (L_nil ?_)))))))))))))))))))))))))
                  refine thenQ_normal ⟨_, ?_, (k + 1), rfl, hds, by kernel_rfl, by kernel_rfl, by kernel_rfl, by kernel_rfl, by kernel_rfl, p_script, p_ask, r_6, r_9, r_10, r_cb17_0, o_cb17, hb, hs, ?_⟩
                  · omega
                  · omega
            · intro h333
              refine L_as (L_as (L_nil (thenQ_normal (W_seq (W_region (L_mv (L_mv (L_mv ?_))))))))
              have hz := get_some has k (by first | omega | (simp only [List.length_replicate]; omega)); obtain ⟨x334, hx335⟩ := hz
              have hz := (r_10.rd).at (k := 1) (fun _ => rfl) hx335
              obtain ⟨g336, off337, hl338, hc339⟩ := hz
              refine L_ixaddr (k := .i64) v_10 k _ g336 off337 el46 hl338 (by first | omega | (simp only [List.length_replicate]; omega)) (by kernel_rfl) (by kernel_rfl) (L_load g336 (off337 + k * 1) (.bool x334) (by kernel_rfl) (by kernel_rfl) (hc339 0 _ rfl) (L_bNe false x334 (by kernel_rfl) (by kernel_rfl) (fun c e => by cases c <;> cases e <;> kernel_rfl) ?_ ?_))
              · intro h340
                exfalso; exact h340 (Eq.trans (Eq.symm (by assumption)) (point_has i4 i2 (by assumption) (by assumption)))
              · intro h341
                refine L_mv (L_want (by kernel_rfl) (L_mv (L_want (by kernel_rfl) (L_mv (L_skip (by kernel_rfl) (L_skip (by kernel_rfl) (L_skip (by kernel_rfl) (L_skip (by kernel_rfl) (L_skip (by kernel_rfl) (L_skip (by kernel_rfl) (L_want (by kernel_rfl) (L_pickF (by kernel_rfl) (L_pickF (by kernel_rfl) (L_mv (L_want (by kernel_rfl) (L_mv (L_want (by kernel_rfl) (L_not false (by kernel_rfl) (L_want (by kernel_rfl) (L_mv (L_want (by kernel_rfl) (L_mv (L_want (by kernel_rfl) (L_cmp .i64 ((atG 0 am x307).1) 0 ((atG 0 am x307).1 ≠ 0) rfl (cmp_ne ((atG 0 am x307).1) 0) (by kernel_rfl) (by kernel_rfl) ?_ ?_))))))))))))))))))))))))
                · intro h342
                  replace h342 : (atG 0 am x307).1 ≠ 0 := by omega
                  exfalso; exact h342 (atG_zero (by assumption))
                · intro h343
                  replace h343 : (atG 0 am x307).1 = 0 := by omega
                  refine L_want (by kernel_rfl) (L_pickT (by kernel_rfl) (L_pickF (by kernel_rfl) (L_nil (thenQ_normal (W_false (by kernel_rfl) (W_skip (blkQ_normal (thenQ_normal (W_region (L_mv (L_addN k 1 (by omega) (by kernel_rfl) (by kernel_rfl) (L_as (L_nil ?_)))))))))))))
                  refine thenQ_normal ⟨_, ?_, (k + 1), rfl, hds, by kernel_rfl, by kernel_rfl, by kernel_rfl, by kernel_rfl, by kernel_rfl, p_script, p_ask, r_6, r_9, r_10, r_cb17_0, o_cb17, hb, hs, ?_⟩
                  · omega
                  · omega
          · intro h344
            replace h344 : (look).length ≤ k := by omega
            refine L_nil (thenQ_normal (W_false (by kernel_rfl) (W_exit (thenQ_exit (thenQ_exit (blkQ_exit (thenQ_normal (W_seq (W_region (L_mv (L_call 19 [(.pointer (some ⟨cb17, 0, none⟩))] (by kernel_rfl) (by kernel_rfl) (c_covers cb17 v_cb17_0 am _ o_cb17 r_cb17_0.rd (by first | exact i2)) ?_)))))))))))
            rintro _ w345 ⟨rfl, hB346⟩
            replace hb := hb.trans (hB346.mono hs)
            replace hs := Nat.le_trans hs (hB346.size)
            replace o_cb17 := obj_below o_cb17 hB346
            replace p_script := p_script.below hB346
            replace p_ask := p_ask.below hB346
            replace r_6 := r_6.below hB346
            replace r_9 := r_9.below hB346
            replace r_10 := r_10.below hB346
            replace r_cb17_0 := r_cb17_0.below hB346
            refine L_as (L_nil (thenQ_normal (W_ret ?_)))
            refine end_ret [.tmp 4] [(.bool true)] rfl hds ⟨by kernel_rfl, trivial⟩ ?_
            have e0 : true = true := by first | rfl | exact Eq.symm (by assumption)
            exact ⟨congrArg Value.bool e0, hb⟩

end Go.Proofs.Ythjgnnfonofgkaa
