/- The second form: whatever the input of a bulk up to the bound, the law 'furrow/furrowlaw05.WordsBack' answers true and its arguments read as before. No condition beyond the statement's own. -/
import Derived.Test.YtbknjmjflfkhkaaRows
import Derived.Test.YtbknjmjflfkhkaaFKy
import Derived.Test.YtbknjmjflfkhkaaWwback
namespace Go.Proofs.Ytbknjmjflfkhkaa.wordsBackUpto
open Go.ChangeShapes Go.WideShapes Go.ChangeAt Go.RowKit Go.FK
open Go.ChangeMaps (open_string shut_string)
set_option linter.unusedVariables false
set_option linter.unusedSimpArgs false
theorem bulk_lits {H : Type} (k : IntKind) : ∀ xs : List Int, Rows.uptoBulkAll (lits (H := H) k xs) = xs.length
  | [] => rfl
  | x :: xs => by
    have ih := bulk_lits (H := H) k xs
    simp only [lits, List.map_cons, Rows.uptoBulkAll, Rows.uptoBulk, List.length_cons] at ih ⊢
    omega
theorem own : ownKnob Try.prog.godebug = none := by kernel_rfl
set_option maxRecDepth 100000 in
theorem contract (H : Type) (enc : TypeId × Value → H) (W : World) (base : Nat) (args : Array Value) (ds gs : List (DataW H)) (before : List MemPlace)
    (hval : ∀ (j : Nat) t v, Try.f12.params[j]? = some t → args[j]? = some v → Value.okWide Try.prog W .any base t v)
    (hW : DataW.Whole enc Try.prog Try.f12.params.toList Rows.wordsBackSpec.vars false W args.toList ds gs before) (hk : Rows.uptoSmall H (ds ++ gs) = true) :
    Calls Try.prog 12 args W fun e W2 => ∃ v, e = .returned v ∧ Rows.wordsBackSpec.post enc Try.prog Try.f12 false true false false W args v W2 := by
  have hW2 := hW
  obtain ⟨p, q, hA0, hV, rfl, hfz, hnd⟩ := hW
  have hA : DataW.TrodAll enc Try.prog W 0 (fun _ => true) true Try.f12.params.toList args.toList ds p := hA0
  rw [Try.params12] at hA hval
  obtain ⟨v0, vs0, d0, ds0, p0, q0, hargs, rfl, rfl, h0, r0⟩ := trodAll_cons hA
  obtain ⟨v1, vs1, d1, ds1, p1, q1, rfl, rfl, rfl, h1, r1⟩ := trodAll_cons r0
  obtain ⟨rfl, rfl, rfl⟩ := trodAll_nil r1
  obtain rfl : args = #[v0, v1] := by cases args; simp_all
  obtain ⟨rfl, rfl⟩ := trodVars_none hV
  have h0k := h0
  have hz := open_rdI Try.underlying49 Try.underlying34 (by kernel_rfl) (hval 0 49 v0 rfl rfl) h0
  obtain ⟨a0, sp0, pv0, wf0, hd0⟩ := hz
  have hr0 : ∀ x ∈ a0, 0 ≤ x ∧ x ≤ 255 := by intro x hx; have hw := wf0 x hx; simp [Lit.wf, IntKind.min, IntKind.max, IntKind.signed, IntKind.bits] at hw; omega
  have hbk0 : a0.length ≤ Rows.uptoBulk d0 := by
    rcases hd0 with ⟨rfl, rfl⟩ | rfl
    · simp
    · simp only [Rows.uptoBulk]; rw [bulk_lits]; omega
  have h1k := h1
  have hz := open_rdI Try.underlying56 Try.underlying5 (by kernel_rfl) (hval 1 56 v1 rfl rfl) h1
  obtain ⟨a1, sp1, pv1, wf1, hd1⟩ := hz
  have hr1 : ∀ x ∈ a1, 0 ≤ x ∧ x ≤ 255 := by intro x hx; have hw := wf1 x hx; simp [Lit.wf, IntKind.min, IntKind.max, IntKind.signed, IntKind.bits] at hw; omega
  have hbk1 : a1.length ≤ Rows.uptoBulk d1 := by
    rcases hd1 with ⟨rfl, rfl⟩ | rfl
    · simp
    · simp only [Rows.uptoBulk]; rw [bulk_lits]; omega
  clear hA0
  simp only [List.append_nil] at hW2
  have hk2 := of_decide_eq_true hk
  simp only [List.append_nil, List.nil_append, List.cons_append, Rows.uptoBulkAll, Rows.uptoBulk] at hk2
  refine (walk_of_ret (c_furrowlaw05_WordsBack v0 a0 v1 a1 W pv0 pv1 (by omega) (by exact hr0) (by exact hr1))).mono fun e W2 he => ?_
  have hg := he.2
  refine ⟨_, he.1, ?_⟩
  exact post_of_below hW2 (fun _ _ _ => (trodAll_cons_mk (shut_bool Try.underlying4 _) trodAll_mk0)) (fun sp hsp => (by have ht := (trodAll_cons_mk (Go.WideElems.Trod_stays (by kernel_rfl) (by kernel_rfl) (of_decide_eq_true (by kernel_rfl)) h0k (fun x hx => hg.same (hW2.lt x (by simp [hx]))) (fun x hx => hsp x (by simp [hx]))) (trodAll_cons_mk (Go.WideElems.Trod_stays (by kernel_rfl) (by kernel_rfl) (of_decide_eq_true (by kernel_rfl)) h1k (fun x hx => hg.same (hW2.lt x (by simp [hx]))) (fun x hx => hsp x (by simp [hx]))) trodAll_mk0)); simp only [List.append_nil] at ht; exact ht)) (fun _ _ => rfl) hg (ok_one (by kernel_rfl) rfl (okWide_bool_mk Try.underlying4 _))
set_option maxRecDepth 100000 in
theorem lifted (os : Os) (started : os.Started) (H : Type) (enc : TypeId × Value → H) (F : Stop.Interp) :
    ReturnsInHanded {} Try.checked os 12 .any ((Rows.OpenSpec.upto Rows.wordsBackSpec).pre6 enc Try.prog Try.f12 Rows.wordsBackUptoRow.domain false) (((Rows.OpenSpec.upto Rows.wordsBackSpec).at F).post enc Try.prog Try.f12 false true false false) := by
  refine returnsInHanded_of_cond (C := Try.checked) (s := Rows.OpenSpec.upto Rows.wordsBackSpec) (k := Rows.uptoSmall) rfl own started (by kernel_rfl) Try.func12
    (OpenSpec.witness (enc := enc) (C := Try.checked) (s := Rows.OpenSpec.upto Rows.wordsBackSpec) (k := Rows.uptoSmall) rfl false ⟨#[], #[.slice none 0 0, .slice none 0 0], []⟩ 8 (by kernel_rfl) (by kernel_rfl) (by kernel_rfl)
      (x := ([.nil, .nil], [], [])) (by kernel_rfl) rfl (by kernel_rfl)) ?_
  intro W base args ds gs before hval hW _ hk _
  exact contract H enc W base args ds gs before hval hW hk
theorem proved : Rows.WordsBackUptoSaid :=
  OpenClaim.holds_of_cond 12 Try.f12 rfl rfl rfl rfl rfl rfl rfl ⟨rfl, rfl, rfl, rfl, rfl⟩ rfl rfl rfl rfl rfl (by kernel_rfl) Try.func12 (by kernel_rfl)
    (of_decide_eq_true (by kernel_rfl)) (by unfold Func.isWrapper; first | (rw [if_pos (by decide +kernel)]; kernel_rfl) | (rw [if_neg (by decide +kernel)]; exact ⟨rfl, rfl⟩))
    (fun os started H enc _ F => lifted os started H enc F)
end Go.Proofs.Ytbknjmjflfkhkaa.wordsBackUpto

