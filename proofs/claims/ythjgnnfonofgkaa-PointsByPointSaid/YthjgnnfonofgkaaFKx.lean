/- FKx: frames: a struct of two whole numbers handed by value; the world's shape handed to the contract. My own text. -/
import Derived.Test.YthjgnnfonofgkaaFKy
import Derived.ChangeSame
import Derived.Deep.Fields
import Derived.HandedShaped
namespace Go.FK
open Go Go.RowKit Go.ChangeShapes Go.WideShapes
section
variable {H : Type} {enc : TypeId × Value → H} {P : Program} {w : World} {base b0 : Nat} {spare : Nat → Bool} {held : Bool}
theorem cells_two {cs : Array Value} {a b : Value} (h : cs.toList = [a, b]) : cs = #[a, b] := by cases cs; simp_all
theorem open_pairI {t : TypeId} {f0 f1 : Field} {k : IntKind} {v : Value} {d : DataW H} {ps : List MemPlace} (hs : P.underlying t = some (.struct #[f0, f1])) (hone : Go.Deep.oneCellFields P #[f0, f1] = true) (hC : P.cellsOf t = 2)
    (h0 : P.underlying f0.type = some (.int k)) (h1 : P.underlying f1.type = some (.int k)) (hok : Value.okWide P w .any b0 t v) (h : DataW.Trod enc P w base spare held t v d ps) :
    ∃ a b : Int, v = .agg #[.int k a, .int k b] ∧ d = .agg [.lit (.int k a), .lit (.int k b)] ∧ ps = [] ∧ (Lit.int k a).wf = true ∧ (Lit.int k b).wf = true := by
  obtain ⟨cs, rfl, hsz⟩ := okWide_struct hs hok
  obtain ⟨fuel, hf⟩ := h
  obtain ⟨y0, y1, n, hx, hl, g0, g1⟩ := trod_struct2 hs hf
  obtain ⟨o0, c0⟩ := Go.Deep.hone_of hone 0 f0 rfl
  obtain ⟨o1, c1⟩ := Go.Deep.hone_of hone 1 f1 rfl
  have hcl : (Value.agg cs).cells.toList.length = 2 := hl.trans hC
  obtain ⟨u0, u1, hu⟩ : ∃ u0 u1, (Value.agg cs).cells.toList = [u0, u1] := by
    match h2 : (Value.agg cs).cells.toList, hcl with
    | [u0, u1], _ => exact ⟨u0, u1, rfl⟩
  rw [hu, o0, c0] at g0
  rw [hu, o1, c1] at g1
  obtain ⟨a, ha, hya, wa⟩ := DataW.trod_int h0 g0
  obtain ⟨b, hb, hyb, wb⟩ := DataW.trod_int h1 g1
  simp at ha hb
  subst ha hb hya hyb
  have hcs : cs = #[.int k a, .int k b] := cells_two (by simpa [Value.cells] using hu)
  simp only [Prod.mk.injEq] at hx
  exact ⟨a, b, by rw [hcs], hx.1, by simpa using hx.2, wa, wb⟩
theorem shut_pairI {t : TypeId} {f0 f1 : Field} {k : IntKind} {a b : Int} (hs : P.underlying t = some (.struct #[f0, f1])) (hone : Go.Deep.oneCellFields P #[f0, f1] = true) (hC : P.cellsOf t = 2)
    (h0 : P.underlying f0.type = some (.int k)) (h1 : P.underlying f1.type = some (.int k)) (wa : (Lit.int k a).wf = true) (wb : (Lit.int k b).wf = true) :
    DataW.Trod enc P w base spare held t (.agg #[.int k a, .int k b]) (.agg [.lit (.int k a), .lit (.int k b)]) [] := by
  obtain ⟨o0, c0⟩ := Go.Deep.hone_of hone 0 f0 rfl
  obtain ⟨o1, c1⟩ := Go.Deep.hone_of hone 1 f1 rfl
  have g0 := trod_int_mk (enc := enc) (P := P) (w := w) (base := base) (spare := spare) (held := held) 0 h0 wa
  have g1 := trod_int_mk (enc := enc) (P := P) (w := w) (base := base) (spare := spare) (held := held) 0 h1 wb
  have := trod_struct2_mk (enc := enc) (P := P) (w := w) (base := base) (spare := spare) (held := held) (n := 1) (cs := [.int k a, .int k b]) hs (by rw [hC]; rfl) (by rw [o0, c0]; exact g0) (by rw [o1, c1]; exact g1)
  exact ⟨2, by simpa [Value.cells] using this⟩
end
/-- A row with a condition: its contract may lean on the world's shape. -/
theorem handed_cond {H : Type} {enc : TypeId × Value → H} {C : Checked} {os : Os} {f : FuncId} {fn : Func} {s : OpenSpec} {k : (H : Type) → List (DataW H) → Bool} {F : Stop.Interp} (hk : s.cond = some k)
    (own : ownKnob C.prog.godebug = none) (started : os.Started) (noInit : C.prog.inits.idxOf? f = none) (hfn : C.prog.funcs[f]? = some fn)
    (witness : ∃ (w : World) (tape : Tape) (i : Input), w.os = os ∧ (w.forCall tape i).Shaped C.prog ∧ i.vars = [] ∧ Input.okWide C.prog (w.forCall tape i) .any w.heap.size f i ∧
      s.pre6 enc C.prog fn [] false (w.forCall tape i).memory i.args ∧ ({} : Assume).holds C.prog (lone (Frame.enter C.prog f i.args .normal) [] (w.forCall tape i)))
    (contract : ∀ (W : World) (base : Nat) (args : Array Value) (ds gs : List (DataW H)) (before : List MemPlace),
      (∀ (j : Nat) t v, fn.params[j]? = some t → args[j]? = some v → Value.okWide C.prog W .any base t v) →
      DataW.Whole enc C.prog fn.params.toList s.vars false W args.toList ds gs before → k H (ds ++ gs) = true → W.ShapedOpen C.prog →
      Calls C.prog f args W fun e W' => ∃ v, e = .returned v ∧ (s.at F).post enc C.prog fn false true false false W args v W') :
    ReturnsInHanded {} C os f .any (s.pre6 enc C.prog fn [] false) ((s.at F).post enc C.prog fn false true false false) := by
  refine returnsInHanded_of_calls own started noInit witness fun w tape i _ hsh _ hok hpre _ => ?_
  obtain ⟨_, _, _, fn', hfn', _, _, _, _, hval⟩ := hok
  obtain rfl : fn' = fn := Option.some.inj (hfn'.symm.trans hfn)
  obtain ⟨ds, gs, before, hw, _, hkk⟩ := (OpenSpec.pre_some hk [] false _ _).1 hpre.1
  refine (contract _ _ i.args ds gs before hval (DataW.Whole.of_heap (w' := w.forCall tape i) (by rfl) hw) hkk hsh).mono ?_
  rintro _ W' ⟨v, rfl, hp⟩
  exact ChangeSpec.post_blind hp
theorem walk_of_ret2 {P : Program} {f : FuncId} {args : Array Value} {w : World} (h : Calls P f args w (Ret fun v w' => v = .bool true ∧ Below w.heap.size w w')) :
    Calls P f args w fun e w' => e = .returned (.bool true) ∧ Below w.heap.size w w' := walk_of_ret h
end Go.FK
