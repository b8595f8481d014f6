/- FKa: frames as functions, and the laws of the walk over them: each law speaks of one operation or one statement, of whatever program. My own text: it rests on the kit's laws (CallsIn, TacticsIn, AppendOwn). -/
import Derived.CallsIn
import Derived.TacticsIn
import Derived.KernelRfl
import Derived.Below
import Derived.Laws.AppendOwn
import Derived.WalkKit
namespace Go.FK
open Go Go.RowKit

/-- The fence that lets everything by, in a round or not. -/
def Fw (r : Option Nat) : Fence := { fn := fun _ => True, depth := none, alive := false, round := r }

theorem calls_fw {r : Option Nat} {n : Nat} {P : Program} {f : FuncId} {args : Array Value} {w : World} {R : Ending → World → Prop} :
    CallsIn (Fw r) n P f args w R ↔ Calls P f args w R := by
  have h : CallsIn (Fw r) n P f args w R ↔ CallsIn Fence.wide n P f args w R := Iff.rfl
  exact h.trans callsIn_wide

structure Fm where
  f : Nat → Value
  ds : List Deferred

def Fm.act (n : Nat) (s : Fm) : Act := { tmps := Array.ofFn fun i : Fin n => s.f i.val, defers := s.ds }
def Fm.put (s : Fm) : Option Tmp → Value → Fm
  | some d, v => { f := fun i => bif Nat.beq i d then v else s.f i, ds := s.ds }
  | none, _ => s
def Fm.ev (n : Nat) (s : Fm) : Operand → Value
  | .tmp t => bif Nat.blt t n then s.f t else undef
  | .const v => v
  | .global g => .pointer (some ⟨g, 0, none⟩)
  | .func f => .func (.func f) #[] #[]

theorem blt_iff (a b : Nat) : Nat.blt a b = decide (a < b) := by
  rw [Bool.eq_iff_iff]; simp

theorem act_eval (n : Nat) (s : Fm) : (s.act n).eval = s.ev n := by
  funext x
  cases x with
  | tmp t =>
    by_cases h : t < n <;> simp [Act.eval, Fm.act, Fm.ev, blt_iff, h]
  | const v => rfl
  | global g => rfl
  | func f => rfl

theorem act_put (n : Nat) (s : Fm) (d : Option Tmp) (v : Value) : (s.act n).put d v = (s.put d v).act n := by
  cases d with
  | none => rfl
  | some d =>
    simp only [Act.put, Fm.act, Fm.put]
    congr 1
    apply Array.ext
    · simp
    · intro i h1 h2
      simp only [Array.size_setIfInBounds, Array.size_ofFn] at h1
      rw [Array.getElem_setIfInBounds (by simpa using h1)]
      by_cases h : d = i
      · subst h
        simp
      · have : Nat.beq i d = false := by
          cases hb : Nat.beq i d with
          | false => rfl
          | true => exact absurd (Nat.eq_of_beq_eq_true hb).symm h
        simp [h, this]

def yl (ops : Array Oper) (n : Nat) (s : Fm) (j : Nat) : Option Bool :=
  match (ops[j]?).bind (·.dst) with
  | some d => bif Nat.blt d n then (match s.f d with | .bool b => some b | _ => none) else none
  | none => none

theorem yielded_act (ops : Array Oper) (n : Nat) (s : Fm) : yielded ops (s.act n).tmps = yl ops n s := by
  funext j
  unfold yielded yl
  cases h : (ops[j]?).bind (·.dst) with
  | none => simp
  | some d =>
    by_cases hd : d < n
    · simp [Fm.act, blt_iff, hd]
      cases s.f d <;> rfl
    · simp [Fm.act, blt_iff, hd]

abbrev Post := Exit → Fm → World → Prop
def upQ (n : Nat) (Q : Post) : Exit → Act → World → Prop := fun e a w => ∃ s, a = Fm.act n s ∧ Q e s w

/-- A piece of code, walked from a frame and a world: where it ends Q holds. -/
def W (r : Option Nat) (P : Program) (n : Nat) (c : Code) (Q : Post) (s : Fm) (w : World) : Prop :=
  c.wpIn (Fw r) 0 P (upQ n Q) (s.act n) w
/-- A region's operations, from one on. -/
def L (r : Option Nat) (P : Program) (n : Nat) (ops : Array Oper) (Q : Post) (l : List Oper) (s : Fm) (w : World) : Prop :=
  wpListIn (Fw r) 0 P ops (upQ n Q) l (s.act n) w

def thenQ (K : Fm → World → Prop) (Q : Post) : Post
  | .normal, s, w => K s w
  | e, s, w => Q e s w
def blkQ (id : Nat) (Q : Post) : Post
  | .exit j, s, w => if j = id then Q .normal s w else Q (.exit j) s w
  | e, s, w => Q e s w

variable {r : Option Nat} {P : Program} {n : Nat} {Q : Post} {s : Fm} {w : World} {ops : Array Oper} {rest : List Oper}

theorem W_iff {c : Code} : W r P n c Q s w ↔ c.wpIn (Fw r) 0 P (upQ n Q) (s.act n) w := Iff.rfl
theorem L_iff {l : List Oper} : L r P n ops Q l s w ↔ wpListIn (Fw r) 0 P ops (upQ n Q) l (s.act n) w := Iff.rfl
theorem W_mono {c : Code} {Q' : Post} (h : W r P n c Q s w) (hq : ∀ e s w, Q e s w → Q' e s w) : W r P n c Q' s w :=
  wpIn_mono h fun e _ w ⟨s, ha, hs⟩ => ⟨s, ha, hq e s w hs⟩

theorem W_seq {x y : Code} (h : W r P n x (thenQ (W r P n y Q) Q) s w) : W r P n (.seq x y) Q s w := by
  refine wpIn_seq (wpIn_mono h ?_)
  rintro e _ w ⟨s, rfl, hs⟩
  cases e <;> first | exact hs | exact ⟨s, rfl, hs⟩
theorem W_skip (h : Q .normal s w) : W r P n .skip Q s w := wpIn_skip ⟨s, rfl, h⟩
theorem W_exit {id : Nat} (h : Q (.exit id) s w) : W r P n (.exit id) Q s w := wpIn_exit ⟨s, rfl, h⟩
theorem W_goto {l : Nat} (h : Q (.goto l) s w) : W r P n (.goto l) Q s w := wpIn_goto ⟨s, rfl, h⟩
theorem W_label {l : Nat} (h : Q .normal s w) : W r P n (.label l) Q s w := wpIn_label ⟨s, rfl, h⟩
theorem W_ret (h : Q .ret s w) : W r P n .ret Q s w := wpIn_ret ⟨s, rfl, h⟩
theorem W_true {c : Operand} {x y : Code} (hc : s.ev n c = .bool true) (h : W r P n x Q s w) : W r P n (.cond c x y) Q s w :=
  wpIn_cond_true (by rw [act_eval]; exact hc) h
theorem W_false {c : Operand} {x y : Code} (hc : s.ev n c = .bool false) (h : W r P n y Q s w) : W r P n (.cond c x y) Q s w :=
  wpIn_cond_false (by rw [act_eval]; exact hc) h
theorem W_block {id : Nat} {c : Code} (h : W r P n c (blkQ id Q) s w) : W r P n (.block id c) Q s w := by
  refine wpIn_block (wpIn_mono h ?_)
  rintro e a w ⟨s, rfl, hs⟩
  cases e with
  | exit j =>
    simp only [Exit.inBlock, blkQ] at hs ⊢
    split <;> rename_i hj
    · rw [if_pos hj] at hs; exact ⟨s, rfl, hs⟩
    · rw [if_neg hj] at hs; exact ⟨s, rfl, hs⟩
  | _ => exact ⟨s, rfl, hs⟩
theorem thenQ_normal {K : Fm → World → Prop} (h : K s w) : thenQ K Q .normal s w := h
theorem thenQ_exit {K : Fm → World → Prop} {id : Nat} (h : Q (.exit id) s w) : thenQ K Q (.exit id) s w := h
theorem thenQ_goto {K : Fm → World → Prop} {id : Nat} (h : Q (.goto id) s w) : thenQ K Q (.goto id) s w := h
theorem thenQ_ret {K : Fm → World → Prop} (h : Q .ret s w) : thenQ K Q .ret s w := h
theorem thenQ_panic {K : Fm → World → Prop} {ch : List PanicEntry} (h : Q (.panic ch) s w) : thenQ K Q (.panic ch) s w := h
theorem blkQ_normal {id : Nat} (h : Q .normal s w) : blkQ id Q .normal s w := h
theorem blkQ_ret {id : Nat} (h : Q .ret s w) : blkQ id Q .ret s w := h
theorem blkQ_goto {id j : Nat} (h : Q (.goto j) s w) : blkQ id Q (.goto j) s w := h
theorem blkQ_panic {id : Nat} {ch : List PanicEntry} (h : Q (.panic ch) s w) : blkQ id Q (.panic ch) s w := h
theorem blkQ_exit {id : Nat} (h : Q .normal s w) : blkQ id Q (.exit id) s w := by simp [blkQ]; exact h
theorem blkQ_exit_other {id j : Nat} (hj : Nat.beq j id = false) (h : Q (.exit j) s w) : blkQ id Q (.exit j) s w := by
  have : j ≠ id := fun e => by subst e; simp at hj
  simp [blkQ, this]; exact h

/-- A loop: an assertion with a number that every round lowers. -/
theorem W_loop {c : Code} (I : Nat → Fm → World → Prop) (m : Nat) (h0 : I m s w)
    (round : ∀ m s w, I m s w → W r P n c (thenQ (fun s' w' => ∃ m', m' < m ∧ I m' s' w') Q) s w) : W r P n (.loop c) Q s w := by
  classical
  let J : Act → World → Prop := fun a w => ∃ m s, a = Fm.act n s ∧ I m s w
  have least : ∀ a w, J a w → ∃ m, (∃ s, a = Fm.act n s ∧ I m s w) ∧ ∀ k, k < m → ¬ ∃ s, a = Fm.act n s ∧ I k s w := by
    intro a w hJ
    obtain ⟨m, hm⟩ := hJ
    induction m using Nat.strongRecOn with
    | _ m ih =>
      by_cases hk : ∃ k, k < m ∧ ∃ s, a = Fm.act n s ∧ I k s w
      · obtain ⟨k, hkm, hks⟩ := hk
        exact ih k hkm hks
      · exact ⟨m, hm, fun k hkm hc => hk ⟨k, hkm, hc⟩⟩
  let μ : Act → World → Nat := fun a w => if h : J a w then Classical.choose (least a w h) else 0
  refine wpIn_loop J μ ⟨m, s, rfl, h0⟩ ?_
  intro a w hJ
  have hs := Classical.choose_spec (least a w hJ)
  obtain ⟨⟨s, rfl, hI⟩, _⟩ := hs
  refine wpIn_mono (round _ s w hI) ?_
  rintro e a' w' ⟨s', rfl, hq⟩
  cases e with
  | normal =>
    obtain ⟨m', hlt, hI'⟩ := hq
    have hJ' : J (Fm.act n s') w' := ⟨m', s', rfl, hI'⟩
    refine ⟨hJ', ?_⟩
    have hs' := Classical.choose_spec (least (Fm.act n s') w' hJ')
    have hle : Classical.choose (least (Fm.act n s') w' hJ') ≤ m' := by
      rcases Nat.lt_or_ge m' (Classical.choose (least (Fm.act n s') w' hJ')) with h | h
      · exact absurd ⟨s', rfl, hI'⟩ (hs'.2 m' h)
      · exact h
    simp only [μ, dif_pos hJ', dif_pos hJ]
    omega
  | _ => exact ⟨s', rfl, hq⟩

/-- What a slot is known to hold, written out. -/
theorem W_set (i : Nat) (v : Value) {c : Code} (h : s.f i = v) (hW : W r P n c Q (s.put (some i) v) w) : W r P n c Q s w := by
  have e : s.put (some i) v = s := by
    cases s with
    | mk f ds =>
      simp only [Fm.put, Fm.mk.injEq, and_true]
      funext j
      cases hj : Nat.beq j i with
      | false => rfl
      | true => rw [Nat.eq_of_beq_eq_true hj]; exact h.symm
  rw [e] at hW
  exact hW
theorem W_region {id : Nat} {l : List Oper} (h : L r P n l.toArray Q l s w) : W r P n (.region id l.toArray false) Q s w :=
  wpIn_region_lit h
theorem L_nil (h : Q .normal s w) : L r P n ops Q [] s w := ⟨s, rfl, h⟩

theorem L_step {o : Oper} (hg : o.guard = none) (hd : ∀ c, o.op ≠ .defer c)
    (h : o.uponIn (Fw r) 0 P (s.act n) (wpListIn (Fw r) 0 P ops (upQ n Q) rest) (upQ n Q) ((execOp (s.ev n) o).run P w)) : L r P n ops Q (o :: rest) s w := by
  unfold L wpListIn
  rw [if_pos (by simp [Region.wanted, hg])]
  refine ⟨fun _ _ => trivial, ?_⟩
  rw [Oper.semAt_eq _ _ _ hd, act_eval]
  exact h

section ops
variable {d : Option Tmp} {ty : TypeId} {pos : String} {af : Array Edge}
/-- A guard that says yes. -/
theorem L_want {op : Op} {g : Nat × Bool} (hg : Option.elim (yl ops n s g.1) false (fun b => b == g.2) = true)
    (h : L r P n ops Q (⟨d, op, ty, pos, af, none⟩ :: rest) s w) : L r P n ops Q (⟨d, op, ty, pos, af, some g⟩ :: rest) s w := by
  unfold L wpListIn at h ⊢
  rw [if_pos (by simp [Region.wanted])] at h
  rw [if_pos]
  · exact h
  · rw [yielded_act]
    obtain ⟨j, b⟩ := g
    simp only [Region.wanted] at hg ⊢
    cases hy : yl ops n s j with
    | none => rw [hy] at hg; cases hg
    | some c => rw [hy] at hg; simpa using hg
/-- A guard that says no. -/
theorem L_skip {op : Op} {g : Nat × Bool} (hg : Option.elim (yl ops n s g.1) false (fun b => b == g.2) = false)
    (h : L r P n ops Q rest (s.put d undef) w) : L r P n ops Q (⟨d, op, ty, pos, af, some g⟩ :: rest) s w := by
  unfold L wpListIn
  rw [if_neg]
  · refine ⟨fun _ _ => trivial, ?_⟩
    rw [act_put]; exact h
  · rw [yielded_act]
    obtain ⟨j, b⟩ := g
    simp only [Region.wanted] at hg ⊢
    cases hy : yl ops n s j with
    | none => simp
    | some c => rw [hy] at hg; simp at hg; simp [hg]

theorem L_val {op : Op} (v : Value) (w' : World) (hd : ∀ c, op ≠ .defer c) (hrun : (execOp (s.ev n) ⟨d, op, ty, pos, af, none⟩).run P w = .ok (.value v) w')
    (h : L r P n ops Q rest (s.put d v) w') : L r P n ops Q (⟨d, op, ty, pos, af, none⟩ :: rest) s w := by
  refine L_step rfl hd ?_
  rw [hrun]
  show wpListIn (Fw r) 0 P ops (upQ n Q) rest ((s.act n).put d v) w'
  rw [act_put]; exact h
theorem L_unit {op : Op} (w' : World) (hd : ∀ c, op ≠ .defer c) (hrun : (execOp (s.ev n) ⟨d, op, ty, pos, af, none⟩).run P w = .ok .skip w')
    (h : L r P n ops Q rest (s.put d undef) w') : L r P n ops Q (⟨d, op, ty, pos, af, none⟩ :: rest) s w := by
  refine L_step rfl hd ?_
  rw [hrun]
  show wpListIn (Fw r) 0 P ops (upQ n Q) rest ((s.act n).put d undef) w'
  rw [act_put]; exact h
theorem L_mv {x : Operand} (h : L r P n ops Q rest (s.put d (s.ev n x)) w) : L r P n ops Q (⟨d, .move x, ty, pos, af, none⟩ :: rest) s w :=
  L_val _ _ (by simp) rfl h
theorem L_as {x : Operand} (h : L r P n ops Q rest (s.put d (s.ev n x)) w) : L r P n ops Q (⟨d, .assign x, ty, pos, af, none⟩ :: rest) s w :=
  L_val _ _ (by simp) rfl h

def notDefer : Op → Bool
  | .defer _ => false
  | _ => true
theorem notDefer_ne {op : Op} (h : notDefer op = true) : ∀ c, op ≠ .defer c := by
  rintro c rfl; cases h
/-- Whatever the kernel can run by itself, the world as it was. -/
theorem L_run {op : Op} (v : Value) (hrun : (execOp (s.ev n) ⟨d, op, ty, pos, af, none⟩).run P w = .ok (.value v) w) (hd : notDefer op = true)
    (h : L r P n ops Q rest (s.put d v) w) : L r P n ops Q (⟨d, op, ty, pos, af, none⟩ :: rest) s w :=
  L_val v w (notDefer_ne hd) hrun h

/-- What a contract says of a call that returns. -/
def Ret (R : Value → World → Prop) : Ending → World → Prop := fun e w => ∃ v, e = .returned v ∧ R v w

theorem L_call {op : Op} (f : FuncId) (args : List Value) {R : Value → World → Prop} (hrun : (execOp (s.ev n) ⟨d, op, ty, pos, af, none⟩).run P w = .ok (.enter f args.toArray) w) (hd : notDefer op = true)
    (hc : Calls P f args.toArray w (Ret R)) (h : ∀ v w', R v w' → L r P n ops Q rest (s.put d v) w') : L r P n ops Q (⟨d, op, ty, pos, af, none⟩ :: rest) s w := by
  refine L_step rfl (notDefer_ne hd) ?_
  rw [hrun]
  refine ⟨fun hx => by simp [Fw] at hx, ?_⟩
  refine CallsIn.mono (calls_fw.2 hc) ?_
  rintro e w' ⟨v, rfl, hR⟩
  show wpListIn (Fw r) 0 P ops (upQ n Q) rest ((s.act n).put d v) w'
  rw [act_put]; exact h v w' hR
end ops

/-! ### the function's ends -/
def endQ (P : Program) (fn : Func) (n : Nat) (R : Value → World → Prop) : Post
  | .normal, s, w | .ret, s, w => s.ds = [] ∧ ∃ v, (results fn (s.act n).tmps).run P w = .ok v w ∧ R v w
  | _, _, _ => False

theorem enter {f : FuncId} {fn : Func} {c : Code} {args : List Value} {R : Value → World → Prop} {k : Nat} (hf : P.funcs[f]? = some fn) (hb : fn.body = some c) (hn : fn.ntmps = k) (hk : Nat.ble args.length k = true)
    (h : W none P k c (endQ P fn k R) ⟨fun i => args.getD i undef, []⟩ w) : Calls P f args.toArray w (Ret R) := by
  have hk' : args.length ≤ k := by simpa using hk
  refine calls_fw.1 (callsIn_of_wp (F := Fw none) (n := 0) hf hb trivial ?_)
  have ha : ({ tmps := args.toArray ++ Array.replicate (fn.ntmps - args.toArray.size) undef, defers := [] } : Act) = Fm.act k ⟨fun i => args.getD i undef, []⟩ := by
    simp only [Fm.act]
    congr 1
    apply Array.ext
    · simp; omega
    · intro i h1 h2
      simp only [Array.size_ofFn] at h2
      simp only [Array.getElem_ofFn]
      by_cases hi : i < args.length
      · rw [Array.getElem_append_left (by simpa using hi)]
        simp [hi]
      · rw [Array.getElem_append_right (by simpa using hi)]
        simp [hi]
  rw [ha]
  refine wpIn_mono h ?_
  rintro e a w ⟨s, rfl, hs⟩
  cases e with
  | normal =>
    obtain ⟨h1, v, h2, h3⟩ := hs
    exact ⟨h1, v, h2, v, rfl, h3⟩
  | ret =>
    obtain ⟨h1, v, h2, h3⟩ := hs
    exact ⟨h1, v, h2, v, rfl, h3⟩
  | exit _ => exact hs.elim
  | goto _ => exact hs.elim
  | panic _ => exact hs.elim
  | outgrown => exact hs.elim

/-- What the results' variables hold. -/
def resOk (P : Program) (n : Nat) (s : Fm) (w : World) : List ResultVar → List Value → Prop
  | [], [] => True
  | .tmp t :: rs, v :: vs => s.ev n (.tmp t) = v ∧ resOk P n s w rs vs
  | .cell a t :: rs, v :: vs => (∃ ad, s.ev n (.tmp a) = .pointer (some ad) ∧ (loadVar t ad).run P w = .ok v w) ∧ resOk P n s w rs vs
  | _, _ => False

theorem getD_act (n : Nat) (s : Fm) (t : Nat) : (s.act n).tmps.getD t undef = s.ev n (.tmp t) := by
  rw [← act_eval]; rfl

def resOne (tmps : Array Value) : ResultVar → Sem Value
  | .tmp t => pure (tmps.getD t undef)
  | .cell a t => do loadVar t (← asAddr (tmps.getD a undef))

theorem results_eq (fn : Func) (tmps : Array Value) : results fn tmps = (do
    let vs ← fn.results.mapM (resOne tmps)
    pure (if h : vs.size = 1 then vs[0] else .tuple vs)) := by
  unfold results
  congr 1

theorem resOne_run (P : Program) (n : Nat) (s : Fm) (w : World) : ∀ (rs : List ResultVar) (vs : List Value), resOk P n s w rs vs →
      (List.mapM (resOne (s.act n).tmps) rs).run P w = .ok vs w := by
  intro rs
  induction rs with
  | nil => intro vs h; cases vs with
    | nil => rfl
    | cons v vs => exact h.elim
  | cons x rs ih =>
    intro vs h
    cases vs with
    | nil => cases x <;> exact h.elim
    | cons v vs =>
      cases x with
      | tmp t =>
        obtain ⟨h1, h2⟩ := h
        rw [List.mapM_cons]
        simp only [Sem.run_bind, ih vs h2, resOne, getD_act, h1, Sem.run_pure, Result.andThen_ok]
      | cell a t =>
        obtain ⟨⟨ad, h1, h3⟩, h2⟩ := h
        rw [List.mapM_cons]
        have e1 : (asAddr (Value.pointer (some ad))).run P w = .ok ad w := rfl
        simp only [Sem.run_bind, ih vs h2, resOne, getD_act, h1, e1, Result.andThen_ok, h3, Sem.run_pure]

theorem results_run {fn : Func} {rs : List ResultVar} {vs : List Value} (hr : fn.results = rs.toArray) (h : resOk P n s w rs vs) :
    (results fn (s.act n).tmps).run P w = .ok (match vs with | [v] => v | _ => .tuple vs.toArray) w := by
  have hk := resOne_run P n s w rs vs h
  have e : (Array.mapM (resOne (s.act n).tmps) rs.toArray).run P w = .ok vs.toArray w := by
    have e1 : Array.mapM (resOne (s.act n).tmps) rs.toArray = (List.mapM (resOne (s.act n).tmps) rs >>= fun l => pure l.toArray) := by
      rw [List.mapM_toArray]
      rfl
    rw [e1, Sem.run_bind, hk, Result.andThen_ok]; rfl
  rw [results_eq, hr, Sem.run_bind, e, Result.andThen_ok]
  match vs with
  | [] => rfl
  | [v] => rfl
  | v :: v' :: vs => simp [Sem.run_pure]

theorem end_ret {fn : Func} {R : Value → World → Prop} (rs : List ResultVar) (vs : List Value) (hr : fn.results = rs.toArray) (hd : s.ds = []) (h : resOk P n s w rs vs)
    (hR : R (match vs with | [v] => v | _ => .tuple vs.toArray) w) : endQ P fn n R .ret s w := ⟨hd, _, results_run hr h, hR⟩
theorem end_normal {fn : Func} {R : Value → World → Prop} (rs : List ResultVar) (vs : List Value) (hr : fn.results = rs.toArray) (hd : s.ds = []) (h : resOk P n s w rs vs)
    (hR : R (match vs with | [v] => v | _ => .tuple vs.toArray) w) : endQ P fn n R .normal s w := ⟨hd, _, results_run hr h, hR⟩
attribute [irreducible] W L endQ
end Go.FK
