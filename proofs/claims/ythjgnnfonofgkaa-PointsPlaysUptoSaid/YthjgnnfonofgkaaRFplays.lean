/- The second form: whatever the input of a bulk up to the bound, the law 'furrow/furrowlaw04.PointsPlays' answers true and its arguments read as before. No condition beyond the statement's own. -/
import Derived.Test.YthjgnnfonofgkaaRows
import Derived.Test.YthjgnnfonofgkaaR1
import Derived.Test.YthjgnnfonofgkaaR5
namespace Go.Proofs.Ythjgnnfonofgkaa.pointsPlaysUpto
open Go.ChangeShapes Go.WideShapes Go.ChangeAt Go.RowKit Go.FK
open Go.ChangeMaps (open_string shut_string)
set_option linter.unusedVariables false
set_option linter.unusedSimpArgs false
theorem bulk_lits {H : Type} (k : IntKind) : ∀ xs : List Int, Rows.uptoBulkAll (lits (H := H) k xs) = xs.length
  | [] => rfl
  | x :: xs => by
    have ih := bulk_lits (H := H) k xs
    simp only [lits, List.map_cons, Rows.uptoBulkAll, Rows.uptoBulk, List.length_cons] at ih ⊢
    omega
theorem bulk_map {H α : Type} (f : α → DataW H) (hf : ∀ a, 1 ≤ Rows.uptoBulk (f a)) : ∀ l : List α, l.length ≤ Rows.uptoBulkAll (l.map f)
  | [] => Nat.le_refl _
  | x :: l => by
    have ih := bulk_map f hf l
    have h1 := hf x
    simp only [List.map_cons, Rows.uptoBulkAll, List.length_cons]
    omega
theorem bulk_mem {H α : Type} (f : α → DataW H) : ∀ {l : List α} {x : α}, x ∈ l → Rows.uptoBulk (f x) ≤ Rows.uptoBulkAll (l.map f)
  | y :: l, x, h => by
    simp only [List.map_cons, Rows.uptoBulkAll]
    rcases List.mem_cons.1 h with rfl | h
    · omega
    · have := bulk_mem f h; omega
theorem bulk_memS {H α : Type} {l : List α} (f : α → DataW H) {s : List (DataW H)} {x : α} (h : x ∈ l) : Rows.uptoBulk (f x) ≤ Rows.uptoBulk (.slice (l.map f) s) := by
  have := bulk_mem f h
  simp only [Rows.uptoBulk]; omega
theorem bulk_mapS {H α : Type} (f : α → DataW H) (hf : ∀ a, 1 ≤ Rows.uptoBulk (f a)) (l : List α) (s : List (DataW H)) : l.length ≤ Rows.uptoBulk (.slice (l.map f) s) := by
  have := bulk_map f hf l
  simp only [Rows.uptoBulk]; omega
theorem own : ownKnob Try.prog.godebug = none := by kernel_rfl
theorem flatE0 : Flat Try.prog 44 8 encStep (fun H a => .agg [.lit (.int .i64 a.1), .lit (.int .i64 a.2.1), .lit (.int .i64 a.2.2.1), .lit (.int .i64 a.2.2.2.1), .lit (.int .i64 a.2.2.2.2.1), .agg [.lit (.int .i32 a.2.2.2.2.2.1.1), .lit (.int .i32 a.2.2.2.2.2.1.2)], .lit (.string a.2.2.2.2.2.2)]) (fun a => (Lit.int .i64 a.1).wf = true ∧ (Lit.int .i64 a.2.1).wf = true ∧ (Lit.int .i64 a.2.2.1).wf = true ∧ (Lit.int .i64 a.2.2.2.1).wf = true ∧ (Lit.int .i64 a.2.2.2.2.1).wf = true ∧ ((Lit.int .i32 a.2.2.2.2.2.1.1).wf = true ∧ (Lit.int .i32 a.2.2.2.2.2.1.2).wf = true) ∧ (a.2.2.2.2.2.2).length ≤ maxLen) := (flat_s1_1_1_1_1_2_1 Try.underlying44 (by kernel_rfl) rfl rfl rfl rfl rfl rfl rfl (flat_int Try.underlying3 (by kernel_rfl)) (flat_int Try.underlying3 (by kernel_rfl)) (flat_int Try.underlying3 (by kernel_rfl)) (flat_int Try.underlying3 (by kernel_rfl)) (flat_int Try.underlying3 (by kernel_rfl)) (flat_struct2 Try.underlying29 (by kernel_rfl) (by kernel_rfl) (flat_int Try.underlying21 (by kernel_rfl)) (flat_int Try.underlying21 (by kernel_rfl))) (flat_str Try.underlying9 (by kernel_rfl)))
set_option maxRecDepth 100000 in
theorem contract (H : Type) (enc : TypeId × Value → H) (W : World) (base : Nat) (args : Array Value) (ds gs : List (DataW H)) (before : List MemPlace)
    (hval : ∀ (j : Nat) t v, Try.f7.params[j]? = some t → args[j]? = some v → Value.okWide Try.prog W .any base t v)
    (hW : DataW.Whole enc Try.prog Try.f7.params.toList Rows.pointsPlaysSpec.vars false W args.toList ds gs before) (hk : Rows.uptoSmall H (ds ++ gs) = true) (hsh : W.ShapedOpen Try.prog) :
    Calls Try.prog 7 args W fun e W2 => ∃ v, e = .returned v ∧ Rows.pointsPlaysSpec.post enc Try.prog Try.f7 false true false false W args v W2 := by
  obtain ⟨ml, hml⟩ : ∃ m, W.cell? ⟨0, 0, none⟩ = some (.int .i64 m) := Try.laysM145.s1_3 W hsh
  have hW2 := hW
  obtain ⟨p, q, hA0, hV, rfl, hfz, hnd⟩ := hW
  have hA : DataW.TrodAll enc Try.prog W 0 (fun _ => true) true Try.f7.params.toList args.toList ds p := hA0
  rw [Try.params7] at hA hval
  obtain ⟨v0, vs0, d0, ds0, p0, q0, hargs, rfl, rfl, h0, r0⟩ := trodAll_cons hA
  obtain ⟨rfl, rfl, rfl⟩ := trodAll_nil r0
  obtain rfl : args = #[v0] := by cases args; simp_all
  obtain ⟨rfl, rfl⟩ := trodVars_none hV
  have h0k := h0
  have hz := open_rdF flatE0 (by decide) Try.underlying39 (hval 0 39 v0 rfl rfl) h0
  obtain ⟨a0, sp0, pv0, cap0, wf0, hd0⟩ := hz
  have hr0 : ∀ a ∈ a0, (-9223372036854775808 ≤ a.1 ∧ a.1 ≤ 9223372036854775807) ∧ (-9223372036854775808 ≤ a.2.1 ∧ a.2.1 ≤ 9223372036854775807) ∧ (-9223372036854775808 ≤ a.2.2.1 ∧ a.2.2.1 ≤ 9223372036854775807) ∧ (-9223372036854775808 ≤ a.2.2.2.1 ∧ a.2.2.2.1 ≤ 9223372036854775807) ∧ (-9223372036854775808 ≤ a.2.2.2.2.1 ∧ a.2.2.2.2.1 ≤ 9223372036854775807) ∧ (-2147483648 ≤ a.2.2.2.2.2.1.1 ∧ a.2.2.2.2.2.1.1 ≤ 2147483647) ∧ (-2147483648 ≤ a.2.2.2.2.2.1.2 ∧ a.2.2.2.2.2.1.2 ≤ 2147483647) := by
    intro a ha
    have hw0 := (wf0 a ha).1
    simp [Lit.wf, IntKind.min, IntKind.max, IntKind.signed, IntKind.bits] at hw0
    have hw1 := (wf0 a ha).2.1
    simp [Lit.wf, IntKind.min, IntKind.max, IntKind.signed, IntKind.bits] at hw1
    have hw2 := (wf0 a ha).2.2.1
    simp [Lit.wf, IntKind.min, IntKind.max, IntKind.signed, IntKind.bits] at hw2
    have hw3 := (wf0 a ha).2.2.2.1
    simp [Lit.wf, IntKind.min, IntKind.max, IntKind.signed, IntKind.bits] at hw3
    have hw4 := (wf0 a ha).2.2.2.2.1
    simp [Lit.wf, IntKind.min, IntKind.max, IntKind.signed, IntKind.bits] at hw4
    have hw5 := (wf0 a ha).2.2.2.2.2.1.1
    simp [Lit.wf, IntKind.min, IntKind.max, IntKind.signed, IntKind.bits] at hw5
    have hw6 := (wf0 a ha).2.2.2.2.2.1.2
    simp [Lit.wf, IntKind.min, IntKind.max, IntKind.signed, IntKind.bits] at hw6
    exact ⟨(by omega), (by omega), (by omega), (by omega), (by omega), (by omega), (by omega)⟩
  have hbk0 : a0.length ≤ Rows.uptoBulk d0 := by
    rcases hd0 with ⟨rfl, rfl⟩ | rfl
    · simp
    · exact bulk_mapS (H := H) _ (fun a => by simp only [Rows.uptoBulk, Rows.uptoBulkAll]; omega) _ _
  have hbm0 : ∀ a ∈ a0, Rows.uptoBulk (H := H) (.agg [.lit (.int .i64 a.1), .lit (.int .i64 a.2.1), .lit (.int .i64 a.2.2.1), .lit (.int .i64 a.2.2.2.1), .lit (.int .i64 a.2.2.2.2.1), .agg [.lit (.int .i32 a.2.2.2.2.2.1.1), .lit (.int .i32 a.2.2.2.2.2.1.2)], .lit (.string a.2.2.2.2.2.2)]) ≤ Rows.uptoBulk d0 := by
    intro a ha
    rcases hd0 with ⟨rfl, rfl⟩ | rfl
    · simp at ha
    · exact bulk_memS (H := H) (l := a0) (fun a => .agg [.lit (.int .i64 a.1), .lit (.int .i64 a.2.1), .lit (.int .i64 a.2.2.1), .lit (.int .i64 a.2.2.2.1), .lit (.int .i64 a.2.2.2.2.1), .agg [.lit (.int .i32 a.2.2.2.2.2.1.1), .lit (.int .i32 a.2.2.2.2.2.1.2)], .lit (.string a.2.2.2.2.2.2)]) ha
  clear hA0
  simp only [List.append_nil] at hW2
  have hk2 := of_decide_eq_true hk
  simp only [List.append_nil, List.nil_append, List.cons_append, Rows.uptoBulkAll, Rows.uptoBulk] at hk2
  refine (walk_of_ret (c_furrowlaw04_PointsPlays v0 a0 W pv0 hml (by exact fun x hx => ⟨⟨(hr0 x hx).2.2.2.2.2.1, (hr0 x hx).2.2.2.2.2.2⟩, by have := hbm0 x hx; simp only [Rows.uptoBulk, Rows.uptoBulkAll] at this; omega⟩))).mono fun e W2 he => ?_
  have hg := he.2
  refine ⟨_, he.1, ?_⟩
  exact post_of_below hW2 (fun _ _ _ => (trodAll_cons_mk (shut_bool Try.underlying4 _) trodAll_mk0)) (fun sp hsp => (by have ht := (trodAll_cons_mk (Go.WideElems.Trod_stays (by kernel_rfl) (by kernel_rfl) (of_decide_eq_true (by kernel_rfl)) h0k (fun x hx => hg.same (hW2.lt x (by simp [hx]))) (fun x hx => hsp x (by simp [hx]))) trodAll_mk0); simp only [List.append_nil] at ht; exact ht)) (fun _ _ => rfl) hg (ok_one (by kernel_rfl) rfl (okWide_bool_mk Try.underlying4 _))
set_option maxRecDepth 100000 in
theorem lifted (os : Os) (started : os.Started) (H : Type) (enc : TypeId × Value → H) (F : Stop.Interp) :
    ReturnsInHanded {} Try.checked os 7 .any ((Rows.OpenSpec.upto Rows.pointsPlaysSpec).pre6 enc Try.prog Try.f7 Rows.pointsPlaysUptoRow.domain false) (((Rows.OpenSpec.upto Rows.pointsPlaysSpec).at F).post enc Try.prog Try.f7 false true false false) := by
  refine handed_cond (C := Try.checked) (s := Rows.OpenSpec.upto Rows.pointsPlaysSpec) (k := Rows.uptoSmall) rfl own started (by kernel_rfl) Try.func7
    (OpenSpec.witness (enc := enc) (C := Try.checked) (s := Rows.OpenSpec.upto Rows.pointsPlaysSpec) (k := Rows.uptoSmall) rfl false ⟨#[], #[.slice none 0 0], []⟩ 8 (by kernel_rfl) (by kernel_rfl) (by kernel_rfl)
      (x := ([.nil], [], [])) (by kernel_rfl) rfl (by kernel_rfl)) ?_
  intro W base args ds gs before hval hW hk hsh
  exact contract H enc W base args ds gs before hval hW hk hsh
theorem proved : Rows.PointsPlaysUptoSaid :=
  OpenClaim.holds_of_cond 7 Try.f7 rfl rfl rfl rfl rfl rfl rfl ⟨rfl, rfl, rfl, rfl, rfl⟩ rfl rfl rfl rfl rfl (by kernel_rfl) Try.func7 (by kernel_rfl)
    (of_decide_eq_true (by kernel_rfl)) (by unfold Func.isWrapper; first | (rw [if_pos (by decide +kernel)]; kernel_rfl) | (rw [if_neg (by decide +kernel)]; exact ⟨rfl, rfl⟩))
    (fun os started H enc _ F => lifted os started H enc F)
end Go.Proofs.Ythjgnnfonofgkaa.pointsPlaysUpto

