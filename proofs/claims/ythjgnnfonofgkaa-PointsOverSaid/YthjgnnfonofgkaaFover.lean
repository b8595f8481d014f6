/- The first form: whatever the input, the law 'furrow/furrowlaw04.PointsOver' answers true and its arguments read as before. No condition beyond the statement's own. -/
import Derived.Test.YthjgnnfonofgkaaRows
import Derived.Test.YthjgnnfonofgkaaFKq
import Derived.Test.YthjgnnfonofgkaaFKx
import Derived.Test.YthjgnnfonofgkaaWgover
namespace Go.Proofs.Ythjgnnfonofgkaa.pointsOver
open Go.ChangeShapes Go.WideShapes Go.ChangeAt Go.RowKit Go.FK
open Go.ChangeMaps (open_string shut_string)
set_option linter.unusedVariables false
set_option linter.unusedSimpArgs false
theorem own : ownKnob Try.prog.godebug = none := by kernel_rfl
theorem flatE0 : Flat Try.prog 29 2 encRg (fun H a => .agg [.lit (.int .i32 a.1), .lit (.int .i32 a.2)]) (fun a => (Lit.int .i32 a.1).wf = true ∧ (Lit.int .i32 a.2).wf = true) := (flat_struct2 Try.underlying29 (by kernel_rfl) (by kernel_rfl) (flat_int Try.underlying21 (by kernel_rfl)) (flat_int Try.underlying21 (by kernel_rfl)))
theorem flatE1 : Flat Try.prog 29 2 encRg (fun H a => .agg [.lit (.int .i32 a.1), .lit (.int .i32 a.2)]) (fun a => (Lit.int .i32 a.1).wf = true ∧ (Lit.int .i32 a.2).wf = true) := (flat_struct2 Try.underlying29 (by kernel_rfl) (by kernel_rfl) (flat_int Try.underlying21 (by kernel_rfl)) (flat_int Try.underlying21 (by kernel_rfl)))
theorem flatE2 : Flat Try.prog 29 2 encRg (fun H a => .agg [.lit (.int .i32 a.1), .lit (.int .i32 a.2)]) (fun a => (Lit.int .i32 a.1).wf = true ∧ (Lit.int .i32 a.2).wf = true) := (flat_struct2 Try.underlying29 (by kernel_rfl) (by kernel_rfl) (flat_int Try.underlying21 (by kernel_rfl)) (flat_int Try.underlying21 (by kernel_rfl)))
set_option maxRecDepth 100000 in
theorem contract (H : Type) (enc : TypeId × Value → H) (W : World) (base : Nat) (args : Array Value) (ds gs : List (DataW H)) (before : List MemPlace)
    (hval : ∀ (j : Nat) t v, Try.f6.params[j]? = some t → args[j]? = some v → Value.okWide Try.prog W .any base t v)
    (hW : DataW.Whole enc Try.prog Try.f6.params.toList Rows.pointsOverSpec.vars false W args.toList ds gs before) (hsh : W.ShapedOpen Try.prog) :
    Calls Try.prog 6 args W fun e W2 => ∃ v, e = .returned v ∧ Rows.pointsOverSpec.post enc Try.prog Try.f6 false true false false W args v W2 := by
  obtain ⟨ml, hml⟩ : ∃ m, W.cell? ⟨0, 0, none⟩ = some (.int .i64 m) := Try.laysM145.s1_3 W hsh
  have hW2 := hW
  obtain ⟨p, q, hA0, hV, rfl, hfz, hnd⟩ := hW
  have hA : DataW.TrodAll enc Try.prog W 0 (fun _ => true) true Try.f6.params.toList args.toList ds p := hA0
  rw [Try.params6] at hA hval
  obtain ⟨v0, vs0, d0, ds0, p0, q0, hargs, rfl, rfl, h0, r0⟩ := trodAll_cons hA
  obtain ⟨v1, vs1, d1, ds1, p1, q1, rfl, rfl, rfl, h1, r1⟩ := trodAll_cons r0
  obtain ⟨v2, vs2, d2, ds2, p2, q2, rfl, rfl, rfl, h2, r2⟩ := trodAll_cons r1
  obtain ⟨v3, vs3, d3, ds3, p3, q3, rfl, rfl, rfl, h3, r3⟩ := trodAll_cons r2
  obtain ⟨rfl, rfl, rfl⟩ := trodAll_nil r3
  obtain rfl : args = #[v0, v1, v2, v3] := by cases args; simp_all
  obtain ⟨rfl, rfl⟩ := trodVars_none hV
  have h0k := h0
  have hz := open_rdF flatE0 (by decide) Try.underlying22 (hval 0 22 v0 rfl rfl) h0
  obtain ⟨a0, sp0, pv0, cap0, wf0, hd0⟩ := hz
  have hr0 : ∀ a ∈ a0, (-2147483648 ≤ a.1 ∧ a.1 ≤ 2147483647) ∧ (-2147483648 ≤ a.2 ∧ a.2 ≤ 2147483647) := by
    intro a ha
    have hw0 := (wf0 a ha).1
    simp [Lit.wf, IntKind.min, IntKind.max, IntKind.signed, IntKind.bits] at hw0
    have hw1 := (wf0 a ha).2
    simp [Lit.wf, IntKind.min, IntKind.max, IntKind.signed, IntKind.bits] at hw1
    exact ⟨(by omega), (by omega)⟩
  have h1k := h1
  have hz := open_rdF flatE1 (by decide) Try.underlying22 (hval 1 22 v1 rfl rfl) h1
  obtain ⟨a1, sp1, pv1, cap1, wf1, hd1⟩ := hz
  have hr1 : ∀ a ∈ a1, (-2147483648 ≤ a.1 ∧ a.1 ≤ 2147483647) ∧ (-2147483648 ≤ a.2 ∧ a.2 ≤ 2147483647) := by
    intro a ha
    have hw0 := (wf1 a ha).1
    simp [Lit.wf, IntKind.min, IntKind.max, IntKind.signed, IntKind.bits] at hw0
    have hw1 := (wf1 a ha).2
    simp [Lit.wf, IntKind.min, IntKind.max, IntKind.signed, IntKind.bits] at hw1
    exact ⟨(by omega), (by omega)⟩
  have h2k := h2
  have hz := open_rdF flatE2 (by decide) Try.underlying22 (hval 2 22 v2 rfl rfl) h2
  obtain ⟨a2, sp2, pv2, cap2, wf2, hd2⟩ := hz
  have hr2 : ∀ a ∈ a2, (-2147483648 ≤ a.1 ∧ a.1 ≤ 2147483647) ∧ (-2147483648 ≤ a.2 ∧ a.2 ≤ 2147483647) := by
    intro a ha
    have hw0 := (wf2 a ha).1
    simp [Lit.wf, IntKind.min, IntKind.max, IntKind.signed, IntKind.bits] at hw0
    have hw1 := (wf2 a ha).2
    simp [Lit.wf, IntKind.min, IntKind.max, IntKind.signed, IntKind.bits] at hw1
    exact ⟨(by omega), (by omega)⟩
  have h3k := h3
  have hz := open_rdI Try.underlying45 Try.underlying3 (by kernel_rfl) (hval 3 45 v3 rfl rfl) h3
  obtain ⟨a3, sp3, pv3, wf3, hd3⟩ := hz
  have hr3 : ∀ x ∈ a3, -9223372036854775808 ≤ x ∧ x ≤ 9223372036854775807 := by intro x hx; have hw := wf3 x hx; simp [Lit.wf, IntKind.min, IntKind.max, IntKind.signed, IntKind.bits] at hw; omega
  clear hA0
  simp only [List.append_nil] at hW2
  refine (walk_of_ret (c_furrowlaw04_PointsOver v0 a0 v1 a1 v2 a2 v3 a3 W pv0 pv1 pv2 pv3 hml (by exact hr0) (by exact hr1) (by exact hr2))).mono fun e W2 he => ?_
  have hg := he.2
  refine ⟨_, he.1, ?_⟩
  exact post_of_below hW2 (fun _ _ _ => (trodAll_cons_mk (shut_bool Try.underlying4 _) trodAll_mk0)) (fun sp hsp => (by have ht := (trodAll_cons_mk (Go.WideElems.Trod_stays (by kernel_rfl) (by kernel_rfl) (of_decide_eq_true (by kernel_rfl)) h0k (fun x hx => hg.same (hW2.lt x (by simp [hx]))) (fun x hx => hsp x (by simp [hx]))) (trodAll_cons_mk (Go.WideElems.Trod_stays (by kernel_rfl) (by kernel_rfl) (of_decide_eq_true (by kernel_rfl)) h1k (fun x hx => hg.same (hW2.lt x (by simp [hx]))) (fun x hx => hsp x (by simp [hx]))) (trodAll_cons_mk (Go.WideElems.Trod_stays (by kernel_rfl) (by kernel_rfl) (of_decide_eq_true (by kernel_rfl)) h2k (fun x hx => hg.same (hW2.lt x (by simp [hx]))) (fun x hx => hsp x (by simp [hx]))) (trodAll_cons_mk (Go.WideElems.Trod_stays (by kernel_rfl) (by kernel_rfl) (of_decide_eq_true (by kernel_rfl)) h3k (fun x hx => hg.same (hW2.lt x (by simp [hx]))) (fun x hx => hsp x (by simp [hx]))) trodAll_mk0)))); simp only [List.append_nil] at ht; exact ht)) (fun _ _ => rfl) hg (ok_one (by kernel_rfl) rfl (okWide_bool_mk Try.underlying4 _))
set_option maxRecDepth 100000 in
theorem lifted (os : Os) (started : os.Started) (H : Type) (enc : TypeId × Value → H) :
    ReturnsInHanded {} Try.checked os 6 .any (Rows.pointsOverSpec.pre6 enc Try.prog Try.f6 Rows.pointsOverRow.domain false) (Rows.pointsOverSpec.post enc Try.prog Try.f6 false true false false) := by
  refine returnsInHanded_of_change_shaped (C := Try.checked) own started (by kernel_rfl) Try.func6
    (ChangeSpec.witness6 (enc := enc) (C := Try.checked) false ⟨#[], #[.slice none 0 0, .slice none 0 0, .slice none 0 0, .slice none 0 0], []⟩ 8 (by kernel_rfl) (by kernel_rfl) (by kernel_rfl) (by kernel_rfl)) ?_
  intro W base args ds gs before hval hW hcnd _ hsh _
  exact contract H enc W base args ds gs before hval hW hsh
theorem proved : Rows.PointsOverSaid :=
  OpenClaim.holds_of_wide 6 Try.f6 rfl rfl rfl rfl rfl rfl rfl ⟨rfl, rfl, rfl, rfl, rfl⟩ rfl rfl rfl rfl rfl (by kernel_rfl) Try.func6 (by kernel_rfl)
    (of_decide_eq_true (by kernel_rfl)) (by unfold Func.isWrapper; first | (rw [if_pos (by decide +kernel)]; kernel_rfl) | (rw [if_neg (by decide +kernel)]; exact ⟨rfl, rfl⟩))
    (fun os started H enc _ => lifted os started H enc)
end Go.Proofs.Ythjgnnfonofgkaa.pointsOver

