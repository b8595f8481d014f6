/- The second form: whatever the input of a bulk up to the bound, the law 'furrow/furrowlaw09.MirrorsScans' answers true and its arguments read as before. No condition beyond the statement's own. -/
import Derived.Test.YtjdcmeoiommglaaDoorCards
import Derived.Test.YtjdcmeoiommglaaDoorTie
import Derived.Test.YtjdcmeoiommglaaDoorLaid
import Derived.Test.YtjdcmeoiommglaaDoorFKx
import Derived.Test.YtjdcmeoiommglaaDoorWmagn
import Derived.Deep.DeepHandedRow
import Derived.SevenTiedAt
namespace Go.Proofs.YtjdcmeoiommglaaDoor.mirrorsScansUpto
open Go.Proofs.YtjdcmeoiommglaaDoor
open Go.ChangeShapes Go.WideShapes Go.ChangeAt Go.RowKit Go.FK
open Go.ChangeMaps (open_string shut_string)
set_option linter.unusedVariables false
set_option linter.unusedSimpArgs false
theorem bulk_lits {H : Type} (k : IntKind) : ∀ xs : List Int, Rows.uptoBulkAll (lits (H := H) k xs) = xs.length
  | [] => rfl
  | x :: xs => by
    have ih := bulk_lits (H := H) k xs
    simp only [lits, List.map_cons, Rows.uptoBulkAll, Rows.uptoBulk, List.length_cons] at ih ⊢
    omega
theorem bulk_strs {H : Type} : ∀ xs : List (List UInt8), Rows.uptoBulkAll (xs.map (fun x => (DataW.lit (.string x) : DataW H))) = Lib.lens xs + xs.length
  | [] => rfl
  | x :: xs => by
    have ih := bulk_strs (H := H) xs
    simp only [List.map_cons, Rows.uptoBulkAll, Rows.uptoBulk, List.length_cons, Lib.lens, List.sum_cons] at ih ⊢
    omega
theorem bulk_map {H α : Type} (f : α → DataW H) (hf : ∀ a, 1 ≤ Rows.uptoBulk (f a)) : ∀ l : List α, l.length ≤ Rows.uptoBulkAll (l.map f)
  | [] => Nat.le_refl _
  | x :: l => by
    have ih := bulk_map f hf l
    have h1 := hf x
    simp only [List.map_cons, Rows.uptoBulkAll, List.length_cons]
    omega
theorem own : ownKnob Tryd.prog.godebug = none := by kernel_rfl
set_option maxRecDepth 100000 in
theorem contract (H : Type) (enc : TypeId × Value → H) (W : World) (base : Nat) (args : Array Value) (ds gs : List (DataW H)) (before : List MemPlace)
    (hval : ∀ (j : Nat) t v, Tryd.f3.params[j]? = some t → args[j]? = some v → Value.okWide Tryd.prog W .any base t v)
    (hW : DataW.Whole enc Tryd.prog Tryd.f3.params.toList Rows.mirrorsScansSpec.vars false W args.toList ds gs before) (hk : Rows.uptoSmall H (ds ++ gs) = true) (hL : laidMetH Tryd.prog laids.rowLaid W) :
    Calls Tryd.prog 3 args W fun e W2 => ∃ v, e = .returned v ∧ Rows.mirrorsScansSpec.post enc Tryd.prog Tryd.f3 false true false false W args v W2 := by
  have hty := laids.handle_of_laid hL
  have hW2 := hW
  obtain ⟨p, q, hA0, hV, rfl, hfz, hnd⟩ := hW
  have hA : DataW.TrodAll enc Tryd.prog W 0 (fun _ => true) true Tryd.f3.params.toList args.toList ds p := hA0
  rw [Tryd.params3] at hA hval
  obtain ⟨v0, vs0, d0, ds0, p0, q0, hargs, rfl, rfl, h0, r0⟩ := trodAll_cons hA
  obtain ⟨rfl, rfl, rfl⟩ := trodAll_nil r0
  obtain rfl : args = #[v0] := by cases args; simp_all
  obtain ⟨rfl, rfl⟩ := trodVars_none hV
  have h0k := h0
  have hz := open_line Tryd.underlying25 (by kernel_rfl) (by kernel_rfl) Tryd.underlying3 Tryd.underlying22 Tryd.underlying9 Tryd.underlying23 Tryd.underlying9 (by kernel_rfl) Tryd.underlying9 (hval 0 25 v0 rfl rfl) h0
  obtain ⟨no0, k0, m0, t0, vf0, f0, df0, rest0, rfl, rfl, pv0, cap0, hdf0, w0, u0⟩ := hz
  have y0 := u0
  simp [Lit.wf, IntKind.min, IntKind.max, IntKind.signed, IntKind.bits] at y0
  have hbk0 : Lib.lens f0 + f0.length ≤ Rows.uptoBulk df0 := by
    rcases hdf0 with ⟨rfl, rfl⟩ | rfl
    · simp [Lib.lens]
    · simp only [Rows.uptoBulk]; rw [bulk_strs]; omega
  have hjl0 := join_len f0
  clear hA0
  simp only [List.append_nil] at hW2
  have hk2 := of_decide_eq_true hk
  simp only [List.append_nil, List.nil_append, List.cons_append, Rows.uptoBulkAll, Rows.uptoBulk] at hk2
  refine (walk_of_ret (c_furrowlaw09_MirrorsScans no0 k0 m0 vf0 f0 t0 W pv0 hty (by omega))).mono fun e W2 he => ?_
  have hg := he.2
  refine ⟨_, he.1, ?_⟩
  exact post_of_below hW2 (fun _ _ _ => (trodAll_cons_mk (shut_bool Tryd.underlying4 _) trodAll_mk0)) (fun sp hsp => (by have ht := (trodAll_cons_mk (Go.WideElems.Trod_stays (by kernel_rfl) (by kernel_rfl) (of_decide_eq_true (by kernel_rfl)) h0k (fun x hx => hg.same (hW2.lt x (by simp [hx]))) (fun x hx => hsp x (by simp [hx]))) trodAll_mk0); simp only [List.append_nil] at ht; exact ht)) (fun _ _ => rfl) hg (ok_one (by kernel_rfl) rfl (okWide_bool_mk Tryd.underlying4 _))
theorem reads (os : Os) {H : Type} (enc : TypeId × Value → H) : ∃ places, DataW.whole enc Tryd.prog ((laids.laidWorld os).forCall (fun _ _ => 0) ⟨#[], #[.agg #[.int .i64 0, .int .u8 0, .string ByteArray.empty, .slice none 0 0, .string ByteArray.empty]], []⟩).memory Tryd.f3.params.toList Rows.mirrorsScansSpec.vars false (#[.agg #[.int .i64 0, .int .u8 0, .string ByteArray.empty, .slice none 0 0, .string ByteArray.empty]] : Array Value).toList 8 = some ([.agg [.lit (.int .i64 0), .lit (.int .u8 0), .lit (.string []), .nil, .lit (.string [])]], [], places) :=
  ⟨[], by kernel_rfl⟩
set_option maxRecDepth 100000 in
theorem lifted (os : Os) (started : os.Started) (H : Type) (enc : TypeId × Value → H) (F : Stop.Interp) :
    ReturnsInHanded {} Tryd.checked os 3 .any ((Rows.OpenSpec.upto Rows.mirrorsScansSpec).preRow enc Tryd.prog Tryd.f3 Rows.mirrorsScansUptoRow.domain false Rows.mirrorsScansUptoRow.laid) (((Rows.OpenSpec.upto Rows.mirrorsScansSpec).at F).post enc Tryd.prog Tryd.f3 false true false false) := by
  obtain ⟨places, hx⟩ := reads os enc
  refine returnsInHanded_of_row (C := Tryd.checked) (s := Rows.OpenSpec.upto Rows.mirrorsScansSpec) own started (by kernel_rfl) Tryd.func3
    (witness_row_at (enc := enc) (C := Tryd.checked) false (laids.laidWorld os) #[.agg #[.int .i64 0, .int .u8 0, .string ByteArray.empty, .slice none 0 0, .string ByteArray.empty]] rfl (by kernel_rfl) (by kernel_rfl) (by kernel_rfl)
      (OpenSpec.preRow_of_cond 8 hx (by kernel_rfl) (fun k hk => by cases hk; kernel_rfl) (by kernel_rfl) (laids.laid_met os _))) ?_
  intro W base args ds gs before hval hW _ hcond _ hL _ _
  exact contract H enc W base args ds gs before hval hW (hcond _ rfl) hL
theorem said : Rows.MirrorsScansUptoSaid :=
  OpenClaim.holds_of_cond 3 Tryd.f3 rfl rfl rfl rfl rfl rfl rfl ⟨rfl, rfl, rfl, rfl, rfl⟩ rfl rfl rfl rfl rfl (by kernel_rfl) Tryd.func3 (by kernel_rfl)
    (of_decide_eq_true (by kernel_rfl)) (by unfold Func.isWrapper; first | (rw [if_pos (by decide +kernel)]; kernel_rfl) | (rw [if_neg (by decide +kernel)]; exact ⟨rfl, rfl⟩))
    (fun os started H enc _ F => by rw [OpenClaim.pre_eq_preRow]; exact lifted os started H enc F)
theorem plain (f : FuncId) (fn : Func) (hf : Tryd.pinned.checked.prog.funcNamed "furrow/furrowlaw09.MirrorsScans" = some f) (hfn : Tryd.pinned.checked.prog.funcs[f]? = some fn) :
    true = Tryd.pinned.checked.prog.looks [] ∧ ∀ (j : Nat) t, fn.params[j]? = some t → Tryd.pinned.checked.prog.wantsStandIn t = false := by
  obtain rfl : f = 3 := Option.some.inj ((show Tryd.prog.funcNamed "furrow/furrowlaw09.MirrorsScans" = some 3 by kernel_rfl).symm.trans hf) |>.symm
  obtain rfl : fn = Tryd.f3 := (Option.some.inj (Tryd.func3.symm.trans hfn)).symm
  refine ⟨by kernel_rfl, fun j t ht => ?_⟩
  rw [Tryd.params3] at ht
  have hm : t ∈ [25] := by simpa using Array.mem_of_getElem? ht
  simp only [List.mem_cons, List.not_mem_nil, or_false] at hm
  rcases hm with rfl
  exact (show Tryd.prog.wantsStandIn 25 = false by kernel_rfl)

theorem proved : Rows.MirrorsScansUptoCardSaid :=
  Claim7.holds_tied_plain_at .later [] _ _ _ _ said (fun _ h => by cases h) (by kernel_rfl) (fun _ h => by cases h) mirrorsScansUpto_row_tie rfl ⟨rfl, rfl⟩ (by kernel_rfl) rfl plain (by kernel_rfl)
end Go.Proofs.YtjdcmeoiommglaaDoor.mirrorsScansUpto

