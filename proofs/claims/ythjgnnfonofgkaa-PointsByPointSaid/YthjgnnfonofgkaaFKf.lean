/- FKf: regions that draw their order and only read, over functional frames: one walk in the order of the text. Rests on the kit's Deep/Quiet. My own text. -/
import Derived.Test.YthjgnnfonofgkaaFKe
import Derived.Deep.Quiet
namespace Go.FK
open Go Go.RowKit

section
variable {P : Program} {n : Nat} {s : Fm} {w : World} {ops : Array Oper} {rest : List Oper} {K : Fm → Prop}
def Lq (P : Program) (n : Nat) (ops : Array Oper) (w : World) (K : Fm → Prop) (l : List Oper) (s : Fm) : Prop :=
  wpQuiet P ops (fun w' => Below w.heap.size w w') (fun a => ∃ s, a = Fm.act n s ∧ K s) l (s.act n)

theorem W_quiet {id : Nat} {l : List Oper} {Q : Post} (hm : P.follows .mixedOrders = true) (hB : Region.lexB .any l.toArray = true)
    (h : Lq P n l.toArray w (fun s' => ∀ w', Below w.heap.size w w' → Q .normal s' w') l s) : W none P n (.region id l.toArray true) Q s w := by
  refine W_iff.2 ?_
  show (Code.region id l.toArray true).wpIn Fence.wide 0 P (upQ n Q) (s.act n) w
  rw [wpIn_wide]
  refine wp_region_quiet (C := fun w' => Below w.heap.size w w') hm hB (Below.refl _ _).drew ?_
  have e : (fun a : Act => ∃ s', a = Fm.act n s' ∧ ∀ w', Below w.heap.size w w' → Q .normal s' w') = fun a => (∃ s', a = Fm.act n s' ∧ ∀ w', Below w.heap.size w w' → Q .normal s' w') := rfl
  have mono : ∀ (l2 : List Oper) (a : Act), wpQuiet P l.toArray (fun w' => Below w.heap.size w w') (fun a => ∃ s', a = Fm.act n s' ∧ ∀ w', Below w.heap.size w w' → Q .normal s' w') l2 a →
      wpQuiet P l.toArray (fun w' => Below w.heap.size w w') (fun a' => ∀ w', Below w.heap.size w w' → upQ n Q .normal a' w') l2 a := by
    intro l2
    induction l2 with
    | nil => rintro a ⟨s', rfl, hs⟩ w' hw'; exact ⟨s', rfl, hs w' hw'⟩
    | cons o l2 ih =>
      intro a ha
      unfold wpQuiet at ha ⊢
      split
      · rename_i hw
        rw [if_pos hw] at ha
        exact Oper.quiet_mono ih ha
      · rename_i hw
        rw [if_neg hw] at ha
        exact ih _ ha
  have := mono l (s.act n) h
  simpa using this

theorem Lq_nil (h : K s) : Lq P n ops w K [] s := ⟨s, rfl, h⟩
section ops
variable {d : Option Tmp} {ty : TypeId} {pos : String} {af : Array Edge}
theorem Lq_val {op : Op} (v : Value) (hrun : ∀ w', Below w.heap.size w w' → (execOp (s.ev n) ⟨d, op, ty, pos, af, none⟩).run P w' = .ok (.value v) w')
    (h : Lq P n ops w K rest (s.put d v)) : Lq P n ops w K (⟨d, op, ty, pos, af, none⟩ :: rest) s := by
  unfold Lq wpQuiet
  rw [if_pos (by simp [Region.wanted])]
  refine ⟨v, fun w' hw' => ?_, by rw [act_put]; exact h⟩
  unfold Oper.quietAt
  rw [act_eval, hrun w' hw']
  exact ⟨rfl, rfl⟩
theorem Lq_call {op : Op} (f : FuncId) (args : List Value) (v : Value) (hrun : ∀ w', Below w.heap.size w w' → (execOp (s.ev n) ⟨d, op, ty, pos, af, none⟩).run P w' = .ok (.enter f args.toArray) w')
    (hc : ∀ w', Below w.heap.size w w' → Calls P f args.toArray w' (Ret fun v' w'' => v' = v ∧ Below w'.heap.size w' w''))
    (h : Lq P n ops w K rest (s.put d v)) : Lq P n ops w K (⟨d, op, ty, pos, af, none⟩ :: rest) s := by
  unfold Lq wpQuiet
  rw [if_pos (by simp [Region.wanted])]
  refine ⟨v, fun w' hw' => ?_, by rw [act_put]; exact h⟩
  unfold Oper.quietAt
  rw [act_eval, hrun w' hw']
  refine ⟨rfl, (hc w' hw').mono ?_⟩
  rintro e w'' ⟨u, rfl, rfl, hb⟩
  exact ⟨rfl, hw'.trans (hb.mono hw'.size)⟩
theorem Lq_want {op : Op} {g : Nat × Bool} (hg : Option.elim (yl ops n s g.1) false (fun b => b == g.2) = true)
    (h : Lq P n ops w K (⟨d, op, ty, pos, af, none⟩ :: rest) s) : Lq P n ops w K (⟨d, op, ty, pos, af, some g⟩ :: rest) s := by
  unfold Lq wpQuiet at h ⊢
  rw [if_pos (by simp [Region.wanted])] at h
  rw [if_pos]
  · exact h
  · rw [yielded_act]
    obtain ⟨j, b⟩ := g
    simp only [Region.wanted] at hg ⊢
    cases hy : yl ops n s j with
    | none => rw [hy] at hg; cases hg
    | some c => rw [hy] at hg; simpa using hg
theorem Lq_skip {op : Op} {g : Nat × Bool} (hg : Option.elim (yl ops n s g.1) false (fun b => b == g.2) = false)
    (h : Lq P n ops w K rest (s.put d undef)) : Lq P n ops w K (⟨d, op, ty, pos, af, some g⟩ :: rest) s := by
  unfold Lq wpQuiet
  rw [if_neg]
  · rw [act_put]; exact h
  · rw [yielded_act]
    obtain ⟨j, b⟩ := g
    simp only [Region.wanted] at hg ⊢
    cases hy : yl ops n s j with
    | none => simp
    | some c => rw [hy] at hg; simp at hg; simp [hg]
theorem Lq_mv {x : Operand} (h : Lq P n ops w K rest (s.put d (s.ev n x))) : Lq P n ops w K (⟨d, .move x, ty, pos, af, none⟩ :: rest) s := Lq_val _ (fun _ _ => rfl) h
theorem Lq_as {x : Operand} (h : Lq P n ops w K rest (s.put d (s.ev n x))) : Lq P n ops w K (⟨d, .assign x, ty, pos, af, none⟩ :: rest) s := Lq_val _ (fun _ _ => rfl) h
theorem Lq_run {op : Op} (v : Value) (hrun : ∀ w', (execOp (s.ev n) ⟨d, op, ty, pos, af, none⟩).run P w' = .ok (.value v) w') (h : Lq P n ops w K rest (s.put d v)) : Lq P n ops w K (⟨d, op, ty, pos, af, none⟩ :: rest) s :=
  Lq_val v (fun w' _ => hrun w') h
theorem Lq_bin {op : BinOp} {t yt : TypeId} {X Y : Operand} (x y v : Value) (hx : s.ev n X = x) (hy : s.ev n Y = y) (hg : ∀ w, (eqGuard op t X Y x y).run P w = .ok () w) (hrun : ∀ w, (binOp op t x y).run P w = .ok v w)
    (h : Lq P n ops w K rest (s.put d v)) : Lq P n ops w K (⟨d, .binOp op t X Y yt, ty, pos, af, none⟩ :: rest) s := by
  refine Lq_val v (fun w' _ => ?_) h
  simp only [execOp, hx, hy, Sem.run_bind, hg, hrun, Result.andThen_ok, Sem.run_pure]
theorem Lq_arith {op : BinOp} {t yt : TypeId} {X Y : Operand} {k : IntKind} (x y z : Int) (hop : isArith op = true) (hx : s.ev n X = .int k x) (hy : s.ev n Y = .int k y) (hz : k.wrap (arithZ op x y) = z)
    (h : Lq P n ops w K rest (s.put d (.int k z))) : Lq P n ops w K (⟨d, .binOp op t X Y yt, ty, pos, af, none⟩ :: rest) s := by
  refine Lq_bin _ _ _ hx hy (fun _ => eqGuard_int ..) (fun w => ?_) h
  subst hz
  cases op <;> first | (simp [isArith] at hop; done) | (simp [binOp, Op.intArith, arithZ, Sem.run_pure])
theorem Lq_addN {t yt : TypeId} {X Y : Operand} (a b : Nat) (hb : a + b ≤ 9223372036854775807) (hx : s.ev n X = .int .i64 a) (hy : s.ev n Y = .int .i64 b)
    (h : Lq P n ops w K rest (s.put d (.int .i64 ((a + b : Nat) : Int)))) : Lq P n ops w K (⟨d, .binOp .add t X Y yt, ty, pos, af, none⟩ :: rest) s :=
  Lq_arith a b _ rfl hx hy (by rw [show arithZ .add (a : Int) b = ((a + b : Nat) : Int) by simp [arithZ]]; exact wrap_i64 _ (by omega) (by omega)) h
theorem Lq_subN {t yt : TypeId} {X Y : Operand} (a b : Nat) (hb : b ≤ a) (ha : a ≤ 9223372036854775807) (hx : s.ev n X = .int .i64 a) (hy : s.ev n Y = .int .i64 b)
    (h : Lq P n ops w K rest (s.put d (.int .i64 ((a - b : Nat) : Int)))) : Lq P n ops w K (⟨d, .binOp .sub t X Y yt, ty, pos, af, none⟩ :: rest) s :=
  Lq_arith a b _ rfl hx hy (by rw [show arithZ .sub (a : Int) b = ((a - b : Nat) : Int) by simp [arithZ]; omega]; exact wrap_i64 _ (by omega) (by omega)) h
theorem Lq_mulN {t yt : TypeId} {X Y : Operand} (a b : Nat) (hb : a * b ≤ 9223372036854775807) (hx : s.ev n X = .int .i64 a) (hy : s.ev n Y = .int .i64 b)
    (h : Lq P n ops w K rest (s.put d (.int .i64 ((a * b : Nat) : Int)))) : Lq P n ops w K (⟨d, .binOp .mul t X Y yt, ty, pos, af, none⟩ :: rest) s :=
  Lq_arith a b _ rfl hx hy (by rw [show arithZ .mul (a : Int) b = ((a * b : Nat) : Int) by simp [arithZ]]; exact wrap_i64 _ (by omega) (by omega)) h
theorem Lq_cmp {op : BinOp} {t yt : TypeId} {X Y : Operand} (k : IntKind) (x y : Int) (p : Prop) [Decidable p] (hop : isCmp op = true) (hp : cmpB op x y = decide p) (hx : s.ev n X = .int k x) (hy : s.ev n Y = .int k y)
    (ht : p → Lq P n ops w K rest (s.put d (.bool true))) (hf : ¬ p → Lq P n ops w K rest (s.put d (.bool false))) : Lq P n ops w K (⟨d, .binOp op t X Y yt, ty, pos, af, none⟩ :: rest) s := by
  have hrun : ∀ w, (binOp op t (.int k x) (.int k y)).run P w = .ok (.bool (decide p)) w := by
    intro w
    rw [← hp]
    cases op <;> first | (simp [isCmp] at hop; done) | (simp [binOp, Op.intCmp, cmpB, Sem.run_pure])
  refine Lq_bin _ _ _ hx hy (fun _ => eqGuard_int ..) hrun ?_
  by_cases hpp : p
  · rw [decide_eq_true hpp]; exact ht hpp
  · rw [decide_eq_false hpp]; exact hf hpp
theorem Lq_pickT {c X Y : Operand} (hc : s.ev n c = .bool true) (h : Lq P n ops w K rest (s.put d (s.ev n X))) : Lq P n ops w K (⟨d, .pick c X Y, ty, pos, af, none⟩ :: rest) s :=
  Lq_val _ (fun _ _ => by simp [execOp, hc, asBool, Sem.run_pure]) h
theorem Lq_pickF {c X Y : Operand} (hc : s.ev n c = .bool false) (h : Lq P n ops w K rest (s.put d (s.ev n Y))) : Lq P n ops w K (⟨d, .pick c X Y, ty, pos, af, none⟩ :: rest) s :=
  Lq_val _ (fun _ _ => by simp [execOp, hc, asBool, Sem.run_pure]) h
theorem Lq_not {t : TypeId} {X : Operand} (b : Bool) (hx : s.ev n X = .bool b) (h : Lq P n ops w K rest (s.put d (.bool (!b)))) : Lq P n ops w K (⟨d, .unOp .not t X, ty, pos, af, none⟩ :: rest) s :=
  Lq_val _ (fun _ _ => by simp [execOp, hx, Op.unary, Sem.run_pure]) h
theorem Lq_conv {a b : TypeId} {X : Operand} {k k' : IntKind} (x z : Int) (ha : (P.underlying a).isSome = true) (hb : P.underlying b = some (.int k')) (hx : s.ev n X = .int k x) (hz : k'.wrap x = z)
    (h : Lq P n ops w K rest (s.put d (.int k' z))) : Lq P n ops w K (⟨d, .convert a b X, ty, pos, af, none⟩ :: rest) s := by
  subst hz
  refine Lq_val _ (fun w _ => ?_) h
  obtain ⟨u, hu⟩ := Option.isSome_iff_exists.1 ha
  have hrun : (convert a b (.int k x)).run P w = .ok (.int k' (k'.wrap x)) w := by
    simp only [convert, run_underlying hu, run_underlying hb, Sem.run_bind, Result.andThen_ok]
    cases u <;> rfl
  simp only [execOp, hx, Sem.run_bind, hrun, Result.andThen_ok, Sem.run_pure]
theorem Lq_sindex {t : TypeId} {X I : Operand} {k : IntKind} (a : List UInt8) (i : Nat) (c : UInt8) (hu : P.underlying t = some .string) (hc : a[i]? = some c) (hx : s.ev n X = S a) (hi : s.ev n I = .int k i)
    (h : Lq P n ops w K rest (s.put d (.int .u8 (c.toNat : Nat)))) : Lq P n ops w K (⟨d, .index t X I, ty, pos, af, none⟩ :: rest) s := by
  refine Lq_val _ (fun w _ => ?_) h
  have e : (⟨a.toArray⟩ : ByteArray)[i]? = some c := by
    obtain ⟨hlt, hg⟩ := List.getElem?_eq_some_iff.1 hc
    rw [getElem?_pos (⟨a.toArray⟩ : ByteArray) i (by rw [size_mk]; exact hlt)]
    congr 1
  simp only [execOp, hx, hi, S, Instr.index, asIntOf, Sem.run_bind, Sem.run_pure, Result.andThen_ok, run_underlying hu, Int.toNat_natCast, Int.natCast_nonneg, if_true, e]
theorem Lq_slen {ats : Array TypeId} {X : Operand} (t : TypeId) (a : List UInt8) (hat : ats[0]? = some t) (hu : P.underlying t = some .string) (hx : s.ev n X = S a)
    (h : Lq P n ops w K rest (s.put d (.int .i64 (a.length : Nat)))) : Lq P n ops w K (⟨d, .call ⟨.builtin .len, #[X], ats⟩, ty, pos, af, none⟩ :: rest) s := by
  refine Lq_val _ (fun w _ => ?_) h
  simp [execOp, resolve, invoke, builtin, Builtin.len_, hat, hx, S, run_underlying hu, goInt, Sem.run_pure, Sem.run_bind, size_mk]
theorem Lq_len {ats : Array TypeId} {X : Operand} (t E m : Nat) (v : Value) (hat : ats[0]? = some t) (hu : P.underlying t = some (.slice E)) (hv : ∃ a c, v = .slice a m c) (hx : s.ev n X = v)
    (h : Lq P n ops w K rest (s.put d (.int .i64 (m : Nat)))) : Lq P n ops w K (⟨d, .call ⟨.builtin .len, #[X], ats⟩, ty, pos, af, none⟩ :: rest) s := by
  obtain ⟨a, c, rfl⟩ := hv
  refine Lq_val _ (fun w _ => ?_) h
  simp [execOp, resolve, invoke, builtin, Builtin.len_, hat, hx, run_underlying hu, goInt, Sem.run_pure, Sem.run_bind]
theorem Lq_ixaddr {X I : Operand} {k : IntKind} {T E ke bytes : Nat} (v : Value) (i m g off : Nat) (he : Elem P T E ke bytes) (hl : Lies v g off m) (him : i < m) (hx : s.ev n X = v) (hi : s.ev n I = .int k i)
    (h : Lq P n ops w K rest (s.put d (.pointer (some ⟨g, off + i * ke, none⟩)))) : Lq P n ops w K (⟨d, .indexAddr T X I, ty, pos, af, none⟩ :: rest) s := by
  obtain ⟨c, rfl⟩ := hl
  refine Lq_val _ (fun w _ => ?_) h
  have hb : (0 : Int) ≤ (i : Int) ∧ (i : Int) < (m : Int) := ⟨by omega, by omega⟩
  simp only [execOp, hx, hi, Instr.indexAt, asIntOf, Sem.run_bind, Sem.run_pure, Result.andThen_ok, run_underlying he.ht, hb, and_self, if_true, run_size he, Int.toNat_natCast, add_lit]
theorem Lq_load {t : TypeId} {X : Operand} (b o : Nat) (v : Value) (hx : s.ev n X = .pointer (some ⟨b, o, none⟩)) (ha : ∀ w, (isAgg t).run P w = .ok false w) (hc : w.cell? ⟨b, o, none⟩ = some v)
    (h : Lq P n ops w K rest (s.put d v)) : Lq P n ops w K (⟨d, .load t X, ty, pos, af, none⟩ :: rest) s := by
  refine Lq_val v (fun w' hw' => ?_) h
  have hc' : w'.cell? ⟨b, o, none⟩ = some v := (hw'.cell (p := ⟨b, o, none⟩) (World.block_lt_of_cell? w _ hc)).trans hc
  simp only [execOp, hx, Instr.loadAt, Instr.sureAddr, loadVar, Sem.run_bind, Sem.run_pure, Result.andThen_ok, ha, Bool.false_eq_true, if_false]
  simp only [load, Sem.run, hc', Result.andThen_ok]
theorem Lq_loadA {t : TypeId} {X : Operand} (b o : Nat) (vs : List Value) (hx : s.ev n X = .pointer (some ⟨b, o, none⟩)) (ha : ∀ w, (isAgg t).run P w = .ok true w) (hz : ∀ w, (sizeOf t).run P w = .ok vs.length w)
    (hc : ∀ j u, vs[j]? = some u → w.cell? ⟨b, o + j, none⟩ = some u)
    (h : Lq P n ops w K rest (s.put d (.agg vs.toArray))) : Lq P n ops w K (⟨d, .load t X, ty, pos, af, none⟩ :: rest) s := by
  refine Lq_val _ (fun w' hw' => ?_) h
  have hl := run_loadCells_list (P := P) (w := w') ⟨b, o, none⟩ vs (fun j u hu => by
    rw [add_lit]
    have := hc j u hu
    exact (hw'.cell (p := ⟨b, o + j, none⟩) (World.block_lt_of_cell? w _ this)).trans this)
  simp only [execOp, hx, Instr.loadAt, Instr.sureAddr, loadVar, Sem.run_bind, Sem.run_pure, Result.andThen_ok, ha, if_true, hz, hl]
theorem Lq_sslice {t : TypeId} {X : Operand} {lo hi : Option Operand} (a : List UInt8) (l hh : Nat) (hu : P.underlying t = some .string) (hx : s.ev n X = S a)
    (hl : (match lo.map (s.ev n) with | none => l = 0 | some v => ∃ k, v = .int k l)) (hhi : (match hi.map (s.ev n) with | none => hh = a.length | some v => ∃ k, v = .int k hh)) (h1 : l ≤ hh) (h2 : hh ≤ a.length)
    (h : Lq P n ops w K rest (s.put d (S ((a.take hh).drop l)))) : Lq P n ops w K (⟨d, .slice t X lo hi none, ty, pos, af, none⟩ :: rest) s := by
  refine Lq_val _ (fun w _ => ?_) h
  have e : (⟨a.toArray⟩ : ByteArray).extract l hh = ⟨((a.take hh).drop l).toArray⟩ := by
    rw [Lib.extract_eq]
    congr 1
    congr 1
    rw [List.drop_take]
  have hb := sliceB (P := P) (w := w) (len := a.length) (cap := a.length) l hh hl hhi h1 h2 false
  simp only [execOp, hx, S, Instr.sliceAt, Instr.slice, Sem.run_bind, Sem.run_pure, Result.andThen_ok, run_underlying hu, Option.map_none, Option.isSome_none, Bool.false_eq_true, if_false, size_mk, hb, e]
theorem Lq_ssfrom {t : TypeId} {X O : Operand} (a : List UInt8) (l : Nat) (hu : P.underlying t = some .string) (hx : s.ev n X = S a) (hl : ∃ k, s.ev n O = .int k l) (h1 : l ≤ a.length)
    (h : Lq P n ops w K rest (s.put d (S (a.drop l)))) : Lq P n ops w K (⟨d, .slice t X (some O) none none, ty, pos, af, none⟩ :: rest) s :=
  Lq_sslice a l a.length hu hx hl rfl h1 (Nat.le_refl _) (by rw [List.take_length]; exact h)
theorem Lq_ssto {t : TypeId} {X O : Operand} (a : List UInt8) (hh : Nat) (hu : P.underlying t = some .string) (hx : s.ev n X = S a) (hl : ∃ k, s.ev n O = .int k hh) (h1 : hh ≤ a.length)
    (h : Lq P n ops w K rest (s.put d (S (a.take hh)))) : Lq P n ops w K (⟨d, .slice t X none (some O) none, ty, pos, af, none⟩ :: rest) s :=
  Lq_sslice a 0 hh hu hx rfl hl (Nat.zero_le _) h1 (by rw [List.drop_zero]; exact h)
theorem Lq_andN {t yt : TypeId} {X Y : Operand} (a b : Nat) (ha : a ≤ 9223372036854775807) (hb : b ≤ 9223372036854775807) (hx : s.ev n X = .int .i64 a) (hy : s.ev n Y = .int .i64 b)
    (h : Lq P n ops w K rest (s.put d (.int .i64 ((a &&& b : Nat) : Int)))) : Lq P n ops w K (⟨d, .binOp .and t X Y yt, ty, pos, af, none⟩ :: rest) s := by
  refine Lq_bin _ _ (.int .i64 ((a &&& b : Nat) : Int)) hx hy (fun _ => eqGuard_int ..) (fun _ => ?_) h
  rw [← andN_wrap a b ha hb]
  rfl
theorem Lq_quoN {t yt : TypeId} {X Y : Operand} (a b : Nat) (hb : 0 < b) (ha : a ≤ 9223372036854775807) (hx : s.ev n X = .int .i64 a) (hy : s.ev n Y = .int .i64 b)
    (h : Lq P n ops w K rest (s.put d (.int .i64 ((a / b : Nat) : Int)))) : Lq P n ops w K (⟨d, .binOp .quo t X Y yt, ty, pos, af, none⟩ :: rest) s := by
  refine Lq_bin _ _ (.int .i64 ((a / b : Nat) : Int)) hx hy (fun _ => eqGuard_int ..) (fun _ => ?_) h
  have hne : (b : Int) ≠ 0 := by omega
  have h2 := Nat.div_le_self a b
  have h3 := Int.natCast_nonneg (a / b)
  have hw : IntKind.i64.wrap ((a : Int) / (b : Int)) = ((a / b : Nat) : Int) := by
    rw [show (a : Int) / (b : Int) = ((a / b : Nat) : Int) by simp]; exact wrap_i64 _ (by omega) (by omega)
  rw [← hw]
  simp [binOp, Op.intDiv, show b ≠ 0 by omega, Sem.run_pure, Int.tdiv_eq_ediv_of_nonneg (Int.natCast_nonneg a)]
theorem Lq_remN {t yt : TypeId} {X Y : Operand} (a b : Nat) (hb : 0 < b) (hx : s.ev n X = .int .i64 a) (hy : s.ev n Y = .int .i64 b)
    (h : Lq P n ops w K rest (s.put d (.int .i64 ((a % b : Nat) : Int)))) : Lq P n ops w K (⟨d, .binOp .rem t X Y yt, ty, pos, af, none⟩ :: rest) s := by
  refine Lq_bin _ _ (.int .i64 ((a % b : Nat) : Int)) hx hy (fun _ => eqGuard_int ..) (fun _ => ?_) h
  rw [show ((a % b : Nat) : Int) = (a : Int) % (b : Int) by simp]
  simp [binOp, Op.intDiv, show b ≠ 0 by omega, Sem.run_pure, Int.tmod_eq_emod_of_nonneg (Int.natCast_nonneg a)]
theorem Lq_sindexZ {t : TypeId} {X I : Operand} {k : IntKind} (a : List UInt8) (z : Int) (i : Nat) (c : UInt8) (hz : z = (i : Int)) (hu : P.underlying t = some .string) (hc : a[i]? = some c) (hx : s.ev n X = S a) (hi : s.ev n I = .int k z)
    (h : Lq P n ops w K rest (s.put d (.int .u8 (c.toNat : Nat)))) : Lq P n ops w K (⟨d, .index t X I, ty, pos, af, none⟩ :: rest) s := by
  subst hz; exact Lq_sindex (k := k) a i c hu hc hx hi h
theorem Lq_ixaddrZ {X I : Operand} {k : IntKind} {T E ke bytes : Nat} (v : Value) (z : Int) (i m g off : Nat) (hz : z = (i : Int)) (he : Elem P T E ke bytes) (hl : Lies v g off m) (him : i < m) (hx : s.ev n X = v) (hi : s.ev n I = .int k z)
    (h : Lq P n ops w K rest (s.put d (.pointer (some ⟨g, off + i * ke, none⟩)))) : Lq P n ops w K (⟨d, .indexAddr T X I, ty, pos, af, none⟩ :: rest) s := by
  subst hz; exact Lq_ixaddr (k := k) v i m g off he hl him hx hi h
theorem Lq_put_split (b : Bool) {dd : Option Tmp} (ht : b = true → Lq P n ops w K rest (s.put dd (.bool true))) (hf : b = false → Lq P n ops w K rest (s.put dd (.bool false))) : Lq P n ops w K rest (s.put dd (.bool b)) := by
  cases b with
  | true => exact ht rfl
  | false => exact hf rfl
end ops
end
/-- A slice that was laid out whole. -/
theorem Row.made {α : Type} {w w' : World} {b B E k : Nat} {cs : List Value} {enc : α → List Value} (xs : List α) (hN : New w w' b (.cells cs.toArray E (0, 0))) (hB : B ≤ b) (hcs : cs = xs.flatMap enc) (hk : cs.length = xs.length * k) (hm : xs.length ≤ 1048576) :
    Row w' B E k enc (.slice (some ⟨b, 0, none⟩) xs.length xs.length) xs := by
  subst hcs
  refine ⟨hk, .inr ⟨b, xs.length, (xs.flatMap enc).toArray, rfl, hB, hN.here, Nat.le_refl _, by unfold maxLen; omega, by simpa using hk, ?_⟩⟩
  rw [← hk]
  exact List.take_length
attribute [irreducible] Lq
end Go.FK
