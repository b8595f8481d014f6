/- The first form: whatever the input, the law 'furrow/furrowlaw08.BracketsBack' answers true and its arguments read as before. No condition beyond the statement's own. -/
import Derived.Test.YtddnhlobnembaaaGreatDoorCards
import Derived.Test.YtddnhlobnembaaaGreatDoorTie
import Derived.Deep.DeepHandedRow
import Derived.SevenTiedAt
import Derived.Test.YtddnhlobnembaaaGreatDoorR1
import Derived.Test.YtddnhlobnembaaaGreatDoorR4
namespace Go.Proofs.YtddnhlobnembaaaGreatDoor.bracketsBack
open Go.Proofs.YtddnhlobnembaaaGreatDoor
open Go.ChangeShapes Go.WideShapes Go.ChangeAt Go.RowKit Go.FK
open Go.ChangeMaps (open_string shut_string)
set_option linter.unusedVariables false
set_option linter.unusedSimpArgs false
theorem own : ownKnob Tryz.prog.godebug = none := by kernel_rfl
theorem flatE0 : Flat Tryz.prog 26 3 encBrk (fun H a => .agg [.lit (.int .i32 a.1), .lit (.int .i32 a.2.1), .lit (.int .u8 a.2.2)]) (fun a => (Lit.int .i32 a.1).wf = true ∧ (Lit.int .i32 a.2.1).wf = true ∧ (Lit.int .u8 a.2.2).wf = true) := flat_struct3 Tryz.underlying26 (by kernel_rfl) (by kernel_rfl) (flat_int Tryz.underlying21 (by kernel_rfl)) (flat_int Tryz.underlying21 (by kernel_rfl)) (flat_int Tryz.underlying24 (by kernel_rfl))
set_option maxRecDepth 100000 in
theorem contract (H : Type) (enc : TypeId × Value → H) (W : World) (base : Nat) (args : Array Value) (ds gs : List (DataW H)) (before : List MemPlace)
    (hval : ∀ (j : Nat) t v, Tryz.f4.params[j]? = some t → args[j]? = some v → Value.okWide Tryz.prog W .any base t v)
    (hW : DataW.Whole enc Tryz.prog Tryz.f4.params.toList Rows.bracketsBackSpec.vars false W args.toList ds gs before) (hL : laidMetH Tryz.prog laids.rowLaid W) :
    Calls Tryz.prog 4 args W fun e W2 => ∃ v, e = .returned v ∧ Rows.bracketsBackSpec.post enc Tryz.prog Tryz.f4 false true false false W args v W2 := by
  have hty := laids.handle_of_laid hL
  have hW2 := hW
  obtain ⟨p, q, hA0, hV, rfl, hfz, hnd⟩ := hW
  have hA : DataW.TrodAll enc Tryz.prog W 0 (fun _ => true) true Tryz.f4.params.toList args.toList ds p := hA0
  rw [Tryz.params4] at hA hval
  obtain ⟨v0, vs0, d0, ds0, p0, q0, hargs, rfl, rfl, h0, r0⟩ := trodAll_cons hA
  obtain ⟨rfl, rfl, rfl⟩ := trodAll_nil r0
  obtain rfl : args = #[v0] := by cases args; simp_all
  obtain ⟨rfl, rfl⟩ := trodVars_none hV
  have h0k := h0
  have hz := open_rdF flatE0 (by decide) Tryz.underlying22 (hval 0 22 v0 rfl rfl) h0
  obtain ⟨a0, sp0, pv0, cap0, wf0, hd0⟩ := hz
  have hr0_0 : ∀ a ∈ a0, -2147483648 ≤ a.1 ∧ a.1 ≤ 2147483647 := by intro a ha; have hw := (wf0 a ha).1; simp [Lit.wf, IntKind.min, IntKind.max, IntKind.signed, IntKind.bits] at hw; omega
  have hr0_1 : ∀ a ∈ a0, -2147483648 ≤ a.2.1 ∧ a.2.1 ≤ 2147483647 := by intro a ha; have hw := (wf0 a ha).2.1; simp [Lit.wf, IntKind.min, IntKind.max, IntKind.signed, IntKind.bits] at hw; omega
  have hr0_2 : ∀ a ∈ a0, 0 ≤ a.2.2 ∧ a.2.2 ≤ 255 := by intro a ha; have hw := (wf0 a ha).2.2; simp [Lit.wf, IntKind.min, IntKind.max, IntKind.signed, IntKind.bits] at hw; omega
  have hle0 := open_len Tryz.underlying22 (hval 0 22 v0 rfl rfl) h0k pv0
  clear hA0
  simp only [List.append_nil] at hW2
  refine (walk_of_ret (c_furrowlaw08_BracketsBack v0 a0 W pv0 hty (by exact hle0))).mono fun e W2 he => ?_
  have hg := he.2
  refine ⟨_, he.1, ?_⟩
  exact post_of_below hW2 (fun _ _ _ => (trodAll_cons_mk (shut_bool Tryz.underlying4 _) trodAll_mk0)) (fun sp hsp => (by have ht := (trodAll_cons_mk (Go.WideElems.Trod_stays (by kernel_rfl) (by kernel_rfl) (of_decide_eq_true (by kernel_rfl)) h0k (fun x hx => hg.same (hW2.lt x (by simp [hx]))) (fun x hx => hsp x (by simp [hx]))) trodAll_mk0); simp only [List.append_nil] at ht; exact ht)) (fun _ _ => rfl) hg (ok_one (by kernel_rfl) rfl (okWide_bool_mk Tryz.underlying4 _))
theorem reads (os : Os) {H : Type} (enc : TypeId × Value → H) : ∃ places, DataW.whole enc Tryz.prog ((laids.laidWorld os).forCall (fun _ _ => 0) ⟨#[], #[.slice none 0 0], []⟩).memory Tryz.f4.params.toList Rows.bracketsBackSpec.vars false (#[.slice none 0 0] : Array Value).toList 8 = some ([.nil], [], places) :=
  ⟨[], by kernel_rfl⟩
set_option maxRecDepth 100000 in
theorem lifted (os : Os) (started : os.Started) (H : Type) (enc : TypeId × Value → H) (F : Stop.Interp) :
    ReturnsInHanded {} Tryz.checked os 4 .any ((OpenSpec.ofChange Rows.bracketsBackSpec).preRow enc Tryz.prog Tryz.f4 Rows.bracketsBackRow.domain false Rows.bracketsBackRow.laid) (((OpenSpec.ofChange Rows.bracketsBackSpec).at F).post enc Tryz.prog Tryz.f4 false true false false) := by
  obtain ⟨places, hx⟩ := reads os enc
  refine returnsInHanded_of_row (C := Tryz.checked) (s := OpenSpec.ofChange Rows.bracketsBackSpec) own started (by kernel_rfl) Tryz.func4
    (witness_row_at (enc := enc) (C := Tryz.checked) false (laids.laidWorld os) #[.slice none 0 0] rfl (by kernel_rfl) (by kernel_rfl) (by kernel_rfl)
      (OpenSpec.preRow_of_cond 8 hx (by kernel_rfl) (fun k hk => by cases hk) (by kernel_rfl) (laids.laid_met os _))) ?_
  intro W base args ds gs before hval hW _ hcond _ hL _ _
  exact contract H enc W base args ds gs before hval hW hL
theorem said : Rows.BracketsBackSaid :=
  OpenClaim.holds_of_cond 4 Tryz.f4 rfl rfl rfl rfl rfl rfl rfl ⟨rfl, rfl, rfl, rfl, rfl⟩ rfl rfl rfl rfl rfl (by kernel_rfl) Tryz.func4 (by kernel_rfl)
    (of_decide_eq_true (by kernel_rfl)) (by unfold Func.isWrapper; first | (rw [if_pos (by decide +kernel)]; kernel_rfl) | (rw [if_neg (by decide +kernel)]; exact ⟨rfl, rfl⟩))
    (fun os started H enc _ F => by rw [OpenClaim.pre_eq_preRow]; exact lifted os started H enc F)
theorem plain (f : FuncId) (fn : Func) (hf : Tryz.pinned.checked.prog.funcNamed "furrow/furrowlaw08.BracketsBack" = some f) (hfn : Tryz.pinned.checked.prog.funcs[f]? = some fn) :
    true = Tryz.pinned.checked.prog.looks [] ∧ ∀ (j : Nat) t, fn.params[j]? = some t → Tryz.pinned.checked.prog.wantsStandIn t = false := by
  obtain rfl : f = 4 := Option.some.inj ((show Tryz.prog.funcNamed "furrow/furrowlaw08.BracketsBack" = some 4 by kernel_rfl).symm.trans hf) |>.symm
  obtain rfl : fn = Tryz.f4 := (Option.some.inj (Tryz.func4.symm.trans hfn)).symm
  refine ⟨by kernel_rfl, fun j t ht => ?_⟩
  rw [Tryz.params4] at ht
  have hm : t ∈ [22] := by simpa using Array.mem_of_getElem? ht
  simp only [List.mem_cons, List.not_mem_nil, or_false] at hm
  rcases hm with rfl
  exact (show Tryz.prog.wantsStandIn 22 = false by kernel_rfl)

theorem proved : Rows.BracketsBackCardSaid :=
  Claim7.holds_tied_plain_at .later [] _ _ _ _ said (fun _ h => by cases h) (by kernel_rfl) (fun _ h => by cases h) bracketsBack_row_tie rfl ⟨rfl, rfl⟩ (by kernel_rfl) rfl plain (by kernel_rfl)
end Go.Proofs.YtddnhlobnembaaaGreatDoor.bracketsBack

