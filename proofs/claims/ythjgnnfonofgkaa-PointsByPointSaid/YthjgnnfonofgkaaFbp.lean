/- The first form: whatever the input, the law 'furrow/furrowlaw04.PointsByPoint' answers true and its arguments read as before. No condition beyond the statement's own. -/
import Derived.Test.YthjgnnfonofgkaaRows
import Derived.Test.YthjgnnfonofgkaaFKq
import Derived.Test.YthjgnnfonofgkaaFKaj
import Derived.Test.YthjgnnfonofgkaaFKx
import Derived.Test.YthjgnnfonofgkaaWgbp
namespace Go.Proofs.Ythjgnnfonofgkaa.pointsByPoint
open Go.ChangeShapes Go.WideShapes Go.ChangeAt Go.RowKit Go.FK
open Go.ChangeMaps (open_string shut_string)
set_option linter.unusedVariables false
set_option linter.unusedSimpArgs false
theorem own : ownKnob Try.prog.godebug = none := by kernel_rfl
theorem flatE0 : Flat Try.prog 44 8 encStep (fun H a => .agg [.lit (.int .i64 a.1), .lit (.int .i64 a.2.1), .lit (.int .i64 a.2.2.1), .lit (.int .i64 a.2.2.2.1), .lit (.int .i64 a.2.2.2.2.1), .agg [.lit (.int .i32 a.2.2.2.2.2.1.1), .lit (.int .i32 a.2.2.2.2.2.1.2)], .lit (.string a.2.2.2.2.2.2)]) (fun a => (Lit.int .i64 a.1).wf = true ∧ (Lit.int .i64 a.2.1).wf = true ∧ (Lit.int .i64 a.2.2.1).wf = true ∧ (Lit.int .i64 a.2.2.2.1).wf = true ∧ (Lit.int .i64 a.2.2.2.2.1).wf = true ∧ ((Lit.int .i32 a.2.2.2.2.2.1.1).wf = true ∧ (Lit.int .i32 a.2.2.2.2.2.1.2).wf = true) ∧ (a.2.2.2.2.2.2).length ≤ maxLen) := (flat_s1_1_1_1_1_2_1 Try.underlying44 (by kernel_rfl) rfl rfl rfl rfl rfl rfl rfl (flat_int Try.underlying3 (by kernel_rfl)) (flat_int Try.underlying3 (by kernel_rfl)) (flat_int Try.underlying3 (by kernel_rfl)) (flat_int Try.underlying3 (by kernel_rfl)) (flat_int Try.underlying3 (by kernel_rfl)) (flat_struct2 Try.underlying29 (by kernel_rfl) (by kernel_rfl) (flat_int Try.underlying21 (by kernel_rfl)) (flat_int Try.underlying21 (by kernel_rfl))) (flat_str Try.underlying9 (by kernel_rfl)))
set_option maxRecDepth 100000 in
theorem contract (H : Type) (enc : TypeId × Value → H) (W : World) (base : Nat) (args : Array Value) (ds gs : List (DataW H)) (before : List MemPlace)
    (hval : ∀ (j : Nat) t v, Try.f4.params[j]? = some t → args[j]? = some v → Value.okWide Try.prog W .any base t v)
    (hW : DataW.Whole enc Try.prog Try.f4.params.toList Rows.pointsByPointSpec.vars false W args.toList ds gs before) (hsh : W.ShapedOpen Try.prog) :
    Calls Try.prog 4 args W fun e W2 => ∃ v, e = .returned v ∧ Rows.pointsByPointSpec.post enc Try.prog Try.f4 false true false false W args v W2 := by
  obtain ⟨ml, hml⟩ : ∃ m, W.cell? ⟨0, 0, none⟩ = some (.int .i64 m) := Try.laysM145.s1_3 W hsh
  have hW2 := hW
  obtain ⟨p, q, hA0, hV, rfl, hfz, hnd⟩ := hW
  have hA : DataW.TrodAll enc Try.prog W 0 (fun _ => true) true Try.f4.params.toList args.toList ds p := hA0
  rw [Try.params4] at hA hval
  obtain ⟨v0, vs0, d0, ds0, p0, q0, hargs, rfl, rfl, h0, r0⟩ := trodAll_cons hA
  obtain ⟨v1, vs1, d1, ds1, p1, q1, rfl, rfl, rfl, h1, r1⟩ := trodAll_cons r0
  obtain ⟨rfl, rfl, rfl⟩ := trodAll_nil r1
  obtain rfl : args = #[v0, v1] := by cases args; simp_all
  obtain ⟨rfl, rfl⟩ := trodVars_none hV
  have h0k := h0
  have hz := open_rdF flatE0 (by decide) Try.underlying39 (hval 0 39 v0 rfl rfl) h0
  obtain ⟨a0, sp0, pv0, cap0, wf0, hd0⟩ := hz
  have hr0 : ∀ a ∈ a0, (-9223372036854775808 ≤ a.1 ∧ a.1 ≤ 9223372036854775807) ∧ (-9223372036854775808 ≤ a.2.1 ∧ a.2.1 ≤ 9223372036854775807) ∧ (-9223372036854775808 ≤ a.2.2.1 ∧ a.2.2.1 ≤ 9223372036854775807) ∧ (-9223372036854775808 ≤ a.2.2.2.1 ∧ a.2.2.2.1 ≤ 9223372036854775807) ∧ (-9223372036854775808 ≤ a.2.2.2.2.1 ∧ a.2.2.2.2.1 ≤ 9223372036854775807) ∧ (-2147483648 ≤ a.2.2.2.2.2.1.1 ∧ a.2.2.2.2.2.1.1 ≤ 2147483647) ∧ (-2147483648 ≤ a.2.2.2.2.2.1.2 ∧ a.2.2.2.2.2.1.2 ≤ 2147483647) := by
    intro a ha
    have hw0 := (wf0 a ha).1
    simp [Lit.wf, IntKind.min, IntKind.max, IntKind.signed, IntKind.bits] at hw0
    have hw1 := (wf0 a ha).2.1
    simp [Lit.wf, IntKind.min, IntKind.max, IntKind.signed, IntKind.bits] at hw1
    have hw2 := (wf0 a ha).2.2.1
    simp [Lit.wf, IntKind.min, IntKind.max, IntKind.signed, IntKind.bits] at hw2
    have hw3 := (wf0 a ha).2.2.2.1
    simp [Lit.wf, IntKind.min, IntKind.max, IntKind.signed, IntKind.bits] at hw3
    have hw4 := (wf0 a ha).2.2.2.2.1
    simp [Lit.wf, IntKind.min, IntKind.max, IntKind.signed, IntKind.bits] at hw4
    have hw5 := (wf0 a ha).2.2.2.2.2.1.1
    simp [Lit.wf, IntKind.min, IntKind.max, IntKind.signed, IntKind.bits] at hw5
    have hw6 := (wf0 a ha).2.2.2.2.2.1.2
    simp [Lit.wf, IntKind.min, IntKind.max, IntKind.signed, IntKind.bits] at hw6
    exact ⟨(by omega), (by omega), (by omega), (by omega), (by omega), (by omega), (by omega)⟩
  have h1k := h1
  have hz := open_rdI Try.underlying40 Try.underlying21 (by kernel_rfl) (hval 1 40 v1 rfl rfl) h1
  obtain ⟨a1, sp1, pv1, wf1, hd1⟩ := hz
  have hr1 : ∀ x ∈ a1, -2147483648 ≤ x ∧ x ≤ 2147483647 := by intro x hx; have hw := wf1 x hx; simp [Lit.wf, IntKind.min, IntKind.max, IntKind.signed, IntKind.bits] at hw; omega
  clear hA0
  simp only [List.append_nil] at hW2
  refine (walk_of_ret (c_furrowlaw04_PointsByPoint v0 a0 v1 a1 W pv0 pv1 hml (by exact fun x hx => ⟨(hr0 x hx).2.2.2.2.2.1, (hr0 x hx).2.2.2.2.2.2⟩))).mono fun e W2 he => ?_
  have hg := he.2
  refine ⟨_, he.1, ?_⟩
  exact post_of_below hW2 (fun _ _ _ => (trodAll_cons_mk (shut_bool Try.underlying4 _) trodAll_mk0)) (fun sp hsp => (by have ht := (trodAll_cons_mk (Go.WideElems.Trod_stays (by kernel_rfl) (by kernel_rfl) (of_decide_eq_true (by kernel_rfl)) h0k (fun x hx => hg.same (hW2.lt x (by simp [hx]))) (fun x hx => hsp x (by simp [hx]))) (trodAll_cons_mk (Go.WideElems.Trod_stays (by kernel_rfl) (by kernel_rfl) (of_decide_eq_true (by kernel_rfl)) h1k (fun x hx => hg.same (hW2.lt x (by simp [hx]))) (fun x hx => hsp x (by simp [hx]))) trodAll_mk0)); simp only [List.append_nil] at ht; exact ht)) (fun _ _ => rfl) hg (ok_one (by kernel_rfl) rfl (okWide_bool_mk Try.underlying4 _))
set_option maxRecDepth 100000 in
theorem lifted (os : Os) (started : os.Started) (H : Type) (enc : TypeId × Value → H) :
    ReturnsInHanded {} Try.checked os 4 .any (Rows.pointsByPointSpec.pre6 enc Try.prog Try.f4 Rows.pointsByPointRow.domain false) (Rows.pointsByPointSpec.post enc Try.prog Try.f4 false true false false) := by
  refine returnsInHanded_of_change_shaped (C := Try.checked) own started (by kernel_rfl) Try.func4
    (ChangeSpec.witness6 (enc := enc) (C := Try.checked) false ⟨#[], #[.slice none 0 0, .slice none 0 0], []⟩ 8 (by kernel_rfl) (by kernel_rfl) (by kernel_rfl) (by kernel_rfl)) ?_
  intro W base args ds gs before hval hW hcnd _ hsh _
  exact contract H enc W base args ds gs before hval hW hsh
theorem proved : Rows.PointsByPointSaid :=
  OpenClaim.holds_of_wide 4 Try.f4 rfl rfl rfl rfl rfl rfl rfl ⟨rfl, rfl, rfl, rfl, rfl⟩ rfl rfl rfl rfl rfl (by kernel_rfl) Try.func4 (by kernel_rfl)
    (of_decide_eq_true (by kernel_rfl)) (by unfold Func.isWrapper; first | (rw [if_pos (by decide +kernel)]; kernel_rfl) | (rw [if_neg (by decide +kernel)]; exact ⟨rfl, rfl⟩))
    (fun os started H enc _ => lifted os started H enc)
end Go.Proofs.Ythjgnnfonofgkaa.pointsByPoint

