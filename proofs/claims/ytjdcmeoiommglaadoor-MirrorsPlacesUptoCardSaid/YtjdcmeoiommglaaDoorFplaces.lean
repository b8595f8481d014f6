/- The second form: whatever the input of a bulk up to the bound, the law 'furrow/furrowlaw09.MirrorsPlaces' answers true and its arguments read as before. No condition beyond the statement's own. -/
import Derived.Test.YtjdcmeoiommglaaDoorCards
import Derived.Test.YtjdcmeoiommglaaDoorTie
import Derived.Test.YtjdcmeoiommglaaDoorLaid
import Derived.Test.YtjdcmeoiommglaaDoorFKx
import Derived.Test.YtjdcmeoiommglaaDoorWmtwo
import Derived.Deep.DeepHandedRow
import Derived.SevenTiedAt
namespace Go.Proofs.YtjdcmeoiommglaaDoor.mirrorsPlacesUpto
open Go.Proofs.YtjdcmeoiommglaaDoor
open Go.ChangeShapes Go.WideShapes Go.ChangeAt Go.RowKit Go.FK
open Go.ChangeMaps (open_string shut_string)
set_option linter.unusedVariables false
set_option linter.unusedSimpArgs false
theorem bulk_lits {H : Type} (k : IntKind) : ∀ xs : List Int, Rows.uptoBulkAll (lits (H := H) k xs) = xs.length
  | [] => rfl
  | x :: xs => by
    have ih := bulk_lits (H := H) k xs
    simp only [lits, List.map_cons, Rows.uptoBulkAll, Rows.uptoBulk, List.length_cons] at ih ⊢
    omega
theorem bulk_strs {H : Type} : ∀ xs : List (List UInt8), Rows.uptoBulkAll (xs.map (fun x => (DataW.lit (.string x) : DataW H))) = Lib.lens xs + xs.length
  | [] => rfl
  | x :: xs => by
    have ih := bulk_strs (H := H) xs
    simp only [List.map_cons, Rows.uptoBulkAll, Rows.uptoBulk, List.length_cons, Lib.lens, List.sum_cons] at ih ⊢
    omega
theorem bulk_map {H α : Type} (f : α → DataW H) (hf : ∀ a, 1 ≤ Rows.uptoBulk (f a)) : ∀ l : List α, l.length ≤ Rows.uptoBulkAll (l.map f)
  | [] => Nat.le_refl _
  | x :: l => by
    have ih := bulk_map f hf l
    have h1 := hf x
    simp only [List.map_cons, Rows.uptoBulkAll, List.length_cons]
    omega
theorem own : ownKnob Tryd.prog.godebug = none := by kernel_rfl
theorem flatE0 : Flat Tryd.prog 27 4 encMir (fun H a => .agg [.lit (.int .i64 a.1), .lit (.int .i32 a.2.1), .lit (.int .i32 a.2.2.1), .lit (.bool a.2.2.2)]) (fun a => (Lit.int .i64 a.1).wf = true ∧ (Lit.int .i32 a.2.1).wf = true ∧ (Lit.int .i32 a.2.2.1).wf = true ∧ True) := flat_struct4 Tryd.underlying27 (by kernel_rfl) (by kernel_rfl) (flat_int Tryd.underlying3 (by kernel_rfl)) (flat_int Tryd.underlying21 (by kernel_rfl)) (flat_int Tryd.underlying21 (by kernel_rfl)) (flat_bool Tryd.underlying4 (by kernel_rfl))
set_option maxRecDepth 100000 in
theorem contract (H : Type) (enc : TypeId × Value → H) (W : World) (base : Nat) (args : Array Value) (ds gs : List (DataW H)) (before : List MemPlace)
    (hval : ∀ (j : Nat) t v, Tryd.f8.params[j]? = some t → args[j]? = some v → Value.okWide Tryd.prog W .any base t v)
    (hW : DataW.Whole enc Tryd.prog Tryd.f8.params.toList Rows.mirrorsPlacesSpec.vars false W args.toList ds gs before) (hk : Rows.uptoSmall H (ds ++ gs) = true) (hL : laidMetH Tryd.prog laids.rowLaid W) :
    Calls Tryd.prog 8 args W fun e W2 => ∃ v, e = .returned v ∧ Rows.mirrorsPlacesSpec.post enc Tryd.prog Tryd.f8 false true false false W args v W2 := by
  have hty := laids.handle_of_laid hL
  have hW2 := hW
  obtain ⟨p, q, hA0, hV, rfl, hfz, hnd⟩ := hW
  have hA : DataW.TrodAll enc Tryd.prog W 0 (fun _ => true) true Tryd.f8.params.toList args.toList ds p := hA0
  rw [Tryd.params8] at hA hval
  obtain ⟨v0, vs0, d0, ds0, p0, q0, hargs, rfl, rfl, h0, r0⟩ := trodAll_cons hA
  obtain ⟨v1, vs1, d1, ds1, p1, q1, rfl, rfl, rfl, h1, r1⟩ := trodAll_cons r0
  obtain ⟨rfl, rfl, rfl⟩ := trodAll_nil r1
  obtain rfl : args = #[v0, v1] := by cases args; simp_all
  obtain ⟨rfl, rfl⟩ := trodVars_none hV
  have h0k := h0
  have hz := open_rdF flatE0 (by decide) Tryd.underlying35 (hval 0 35 v0 rfl rfl) h0
  obtain ⟨a0, sp0, pv0, cap0, wf0, hd0⟩ := hz
  have hr0_0 : ∀ a ∈ a0, -9223372036854775808 ≤ a.1 ∧ a.1 ≤ 9223372036854775807 := by intro a ha; have hw := (wf0 a ha).1; simp [Lit.wf, IntKind.min, IntKind.max, IntKind.signed, IntKind.bits] at hw; omega
  have hr0_1 : ∀ a ∈ a0, -2147483648 ≤ a.2.1 ∧ a.2.1 ≤ 2147483647 := by intro a ha; have hw := (wf0 a ha).2.1; simp [Lit.wf, IntKind.min, IntKind.max, IntKind.signed, IntKind.bits] at hw; omega
  have hr0_2 : ∀ a ∈ a0, -2147483648 ≤ a.2.2.1 ∧ a.2.2.1 ≤ 2147483647 := by intro a ha; have hw := (wf0 a ha).2.2.1; simp [Lit.wf, IntKind.min, IntKind.max, IntKind.signed, IntKind.bits] at hw; omega
  have hbk0 : a0.length ≤ Rows.uptoBulk d0 := by
    rcases hd0 with ⟨rfl, rfl⟩ | rfl
    · simp
    · have hz := bulk_map (H := H) ((fun a => .agg [.lit (.int .i64 a.1), .lit (.int .i32 a.2.1), .lit (.int .i32 a.2.2.1), .lit (.bool a.2.2.2)])) (fun a => by simp only [Rows.uptoBulk, Rows.uptoBulkAll]; omega) a0; simp only [Rows.uptoBulk]; omega
  obtain ⟨a1, rfl, rfl, rfl, w1⟩ := open_string Tryd.underlying9 (hval 1 9 v1 rfl rfl) h1
  clear hA0
  simp only [List.append_nil] at hW2
  have hk2 := of_decide_eq_true hk
  simp only [List.append_nil, List.nil_append, List.cons_append, Rows.uptoBulkAll, Rows.uptoBulk] at hk2
  rw [S_of a1]
  refine (walk_of_ret (c_furrowlaw09_MirrorsPlaces v0 a0 (a1.data.toList) W pv0 hty (by omega) (by omega))).mono fun e W2 he => ?_
  have hg := he.2
  refine ⟨_, he.1, ?_⟩
  exact post_of_below hW2 (fun _ _ _ => (trodAll_cons_mk (shut_bool Tryd.underlying4 _) trodAll_mk0)) (fun sp hsp => (by have ht := (trodAll_cons_mk (Go.WideElems.Trod_stays (by kernel_rfl) (by kernel_rfl) (of_decide_eq_true (by kernel_rfl)) h0k (fun x hx => hg.same (hW2.lt x (by simp [hx]))) (fun x hx => hsp x (by simp [hx]))) (trodAll_cons_mk (shut_string Tryd.underlying9 w1) trodAll_mk0)); simp only [List.append_nil] at ht; exact ht)) (fun _ _ => rfl) hg (ok_one (by kernel_rfl) rfl (okWide_bool_mk Tryd.underlying4 _))
theorem reads (os : Os) {H : Type} (enc : TypeId × Value → H) : ∃ places, DataW.whole enc Tryd.prog ((laids.laidWorld os).forCall (fun _ _ => 0) ⟨#[], #[.slice none 0 0, .string ByteArray.empty], []⟩).memory Tryd.f8.params.toList Rows.mirrorsPlacesSpec.vars false (#[.slice none 0 0, .string ByteArray.empty] : Array Value).toList 8 = some ([.nil, .lit (.string [])], [], places) :=
  ⟨[], by kernel_rfl⟩
set_option maxRecDepth 100000 in
theorem lifted (os : Os) (started : os.Started) (H : Type) (enc : TypeId × Value → H) (F : Stop.Interp) :
    ReturnsInHanded {} Tryd.checked os 8 .any ((Rows.OpenSpec.upto Rows.mirrorsPlacesSpec).preRow enc Tryd.prog Tryd.f8 Rows.mirrorsPlacesUptoRow.domain false Rows.mirrorsPlacesUptoRow.laid) (((Rows.OpenSpec.upto Rows.mirrorsPlacesSpec).at F).post enc Tryd.prog Tryd.f8 false true false false) := by
  obtain ⟨places, hx⟩ := reads os enc
  refine returnsInHanded_of_row (C := Tryd.checked) (s := Rows.OpenSpec.upto Rows.mirrorsPlacesSpec) own started (by kernel_rfl) Tryd.func8
    (witness_row_at (enc := enc) (C := Tryd.checked) false (laids.laidWorld os) #[.slice none 0 0, .string ByteArray.empty] rfl (by kernel_rfl) (by kernel_rfl) (by kernel_rfl)
      (OpenSpec.preRow_of_cond 8 hx (by kernel_rfl) (fun k hk => by cases hk; kernel_rfl) (by kernel_rfl) (laids.laid_met os _))) ?_
  intro W base args ds gs before hval hW _ hcond _ hL _ _
  exact contract H enc W base args ds gs before hval hW (hcond _ rfl) hL
theorem said : Rows.MirrorsPlacesUptoSaid :=
  OpenClaim.holds_of_cond 8 Tryd.f8 rfl rfl rfl rfl rfl rfl rfl ⟨rfl, rfl, rfl, rfl, rfl⟩ rfl rfl rfl rfl rfl (by kernel_rfl) Tryd.func8 (by kernel_rfl)
    (of_decide_eq_true (by kernel_rfl)) (by unfold Func.isWrapper; first | (rw [if_pos (by decide +kernel)]; kernel_rfl) | (rw [if_neg (by decide +kernel)]; exact ⟨rfl, rfl⟩))
    (fun os started H enc _ F => by rw [OpenClaim.pre_eq_preRow]; exact lifted os started H enc F)
theorem plain (f : FuncId) (fn : Func) (hf : Tryd.pinned.checked.prog.funcNamed "furrow/furrowlaw09.MirrorsPlaces" = some f) (hfn : Tryd.pinned.checked.prog.funcs[f]? = some fn) :
    true = Tryd.pinned.checked.prog.looks [] ∧ ∀ (j : Nat) t, fn.params[j]? = some t → Tryd.pinned.checked.prog.wantsStandIn t = false := by
  obtain rfl : f = 8 := Option.some.inj ((show Tryd.prog.funcNamed "furrow/furrowlaw09.MirrorsPlaces" = some 8 by kernel_rfl).symm.trans hf) |>.symm
  obtain rfl : fn = Tryd.f8 := (Option.some.inj (Tryd.func8.symm.trans hfn)).symm
  refine ⟨by kernel_rfl, fun j t ht => ?_⟩
  rw [Tryd.params8] at ht
  have hm : t ∈ [35, 9] := by simpa using Array.mem_of_getElem? ht
  simp only [List.mem_cons, List.not_mem_nil, or_false] at hm
  rcases hm with rfl | rfl
  · exact (show Tryd.prog.wantsStandIn 35 = false by kernel_rfl)
  · exact (show Tryd.prog.wantsStandIn 9 = false by kernel_rfl)

theorem proved : Rows.MirrorsPlacesUptoCardSaid :=
  Claim7.holds_tied_plain_at .later [] _ _ _ _ said (fun _ h => by cases h) (by kernel_rfl) (fun _ h => by cases h) mirrorsPlacesUpto_row_tie rfl ⟨rfl, rfl⟩ (by kernel_rfl) rfl plain (by kernel_rfl)
end Go.Proofs.YtjdcmeoiommglaaDoor.mirrorsPlacesUpto

