/- FKn: regions that draw their order, hold loads and arithmetic, and store at their end: the reading operations are taken first, each yields its value in every world that may come; then the stores. Over functional frames; rests on the kit's OrdersHeld. My own text. -/
import Derived.Test.YthjgnnfonofgkaaFKm
import Derived.OrdersHeld
namespace Go.FK
open Go Go.RowKit
/-- No way of leaving by a panic is let by. -/
def NoPanic (Q : Post) : Prop := ∀ c s w, ¬ Q (.panic c) s w
theorem noPanic_then {K : Fm → World → Prop} {Q : Post} (h : NoPanic Q) : NoPanic (thenQ K Q) := fun c s w hq => h c s w hq
theorem noPanic_blk {id : Nat} {Q : Post} (h : NoPanic Q) : NoPanic (blkQ id Q) := fun c s w hq => h c s w hq
theorem endQ_iff {P : Program} {fn : Func} {n : Nat} {R : Value → World → Prop} {e : Exit} {s : Fm} {w : World} : endQ P fn n R e s w ↔ (match e with | .normal | .ret => s.ds = [] ∧ ∃ v, (results fn (s.act n).tmps).run P w = .ok v w ∧ R v w | _ => False) := by
  unfold endQ; cases e <;> exact Iff.rfl
theorem noPanic_end {P : Program} {fn : Func} {n : Nat} {R : Value → World → Prop} : NoPanic (endQ P fn n R) := fun c s w hq => by rw [endQ_iff] at hq; exact hq
theorem noPanic_round {α : Type} {K0 K : Nat} {I : Nat → List α → World → Prop} {Ix : Nat → Code → List α → World → Prop} {N : World → Prop} {xs : List α} {w2 : World} : NoPanic (roundQ K0 K I Ix N xs w2) := fun c s w hq => hq

section
variable {P : Program} {n : Nat} {Q : Post} {s : Fm} {w : World} {ops : Array Oper} {S : World → Prop} {fuel : Nat} {listed : Array Bool}
/-- Whatever order the rest is carried out in. -/
def Lh (P : Program) (n : Nat) (ops : Array Oper) (Q : Post) (S : World → Prop) (fuel : Nat) (listed : Array Bool) (s : Fm) (w : World) : Prop := wpAnyH P .any ops (upQ n Q) S fuel listed (s.act n) w
theorem W_held {id : Nat} {l : List Oper} (N : Nat) (hN : Nat.beq l.length N = true) (hm : P.follows .mixedOrders = true)
    (h : ∀ w', Below w.heap.size w w' → ∃ S, Lh P n l.toArray Q S N (Array.replicate N false) s w') : W none P n (.region id l.toArray true) Q s w := by
  refine W_iff.2 ?_
  show (Code.region id l.toArray true).wpIn Fence.wide 0 P (upQ n Q) (s.act n) w
  rw [wpIn_wide]
  obtain ⟨S, hS⟩ := h { w with drawn := w.drawn + 1 } (Below.refl _ _).drew
  have e : l.length = N := Nat.eq_of_beq_eq_true hN
  subst e
  exact wp_region_held (S := S) hm (by simpa [Lh] using hS)
/-- In every world of the class the operation yields this value, and does nothing else. -/
def RunOk (P : Program) (n : Nat) (o : Oper) (s : Fm) (S : World → Prop) (v : Value) : Prop := ∀ w', S w' → (execOp (s.ev n) o).run P w' = .ok (.value v) w'
def wantB (ops : Array Oper) (n : Nat) (s : Fm) : Option (Nat × Bool) → Bool
  | none => true
  | some g => Option.elim (yl ops n s g.1) false (fun b => b == g.2)
theorem wanted_want {o : Oper} : Region.wanted o (yielded ops (s.act n).tmps) = wantB ops n s o.guard := by
  rw [yielded_act]
  cases hg : o.guard with
  | none => simp [Region.wanted, hg, wantB]
  | some g =>
    obtain ⟨j, b⟩ := g
    simp only [Region.wanted, hg, wantB]
    cases hy : yl ops n s j with
    | none => simp
    | some c => simp
theorem H_take (i : Nat) {o : Oper} (v : Value) (hi : ops[i]? = some o) (hs : Region.noSelect ops = true) (hf : Region.free .any ops listed i = true) (hr : (Region.ready .any ops listed).contains i = true)
    (hq : NoPanic Q) (hS : S w) (hw : wantB ops n s o.guard = true) (hrun : RunOk P n o s S v) (h : Lh P n ops Q S fuel (listed.setIfInBounds i true) (s.put o.dst v) w) : Lh P n ops Q S (fuel + 1) listed s w := by
  unfold Lh at h ⊢
  refine wpAnyH_take (v := v) hi hs hf hr ?_ (.inl ⟨?_, ?_⟩) hS ?_
  · intro c a w hp
    obtain ⟨s', _, hp⟩ := hp
    exact absurd hp (hq c s' w)
  · rw [wanted_want]; exact hw
  · intro w' hw'; rw [act_eval]; exact hrun w' hw'
  · rw [act_put]; exact h
theorem H_skip (i : Nat) {o : Oper} (hi : ops[i]? = some o) (hs : Region.noSelect ops = true) (hf : Region.free .any ops listed i = true) (hr : (Region.ready .any ops listed).contains i = true)
    (hq : NoPanic Q) (hS : S w) (hw : wantB ops n s o.guard = false) (h : Lh P n ops Q S fuel (listed.setIfInBounds i true) (s.put o.dst undef) w) : Lh P n ops Q S (fuel + 1) listed s w := by
  unfold Lh at h ⊢
  refine wpAnyH_take (v := undef) hi hs hf hr ?_ (.inr ⟨?_, rfl⟩) hS ?_
  · intro c a w hp
    obtain ⟨s', _, hp⟩ := hp
    exact absurd hp (hq c s' w)
  · rw [wanted_want]; exact hw
  · rw [act_put]; exact h
theorem H_done (hr : Region.ready .any ops listed = []) (h : Q .normal s w) : Lh P n ops Q S fuel listed s w := wpAnyH_done hr ⟨s, rfl, h⟩ fuel
/-- The one operation that may come up: it changes the world. -/
theorem H_one (i : Nat) {d : Option Tmp} {op : Op} {ty : TypeId} {pos : String} {af : Array Edge} (hi : ops[i]? = some ⟨d, op, ty, pos, af, none⟩) (hr : Region.ready .any ops listed = [i])
    (h : L none P n ops (fun e s' w' => e = .normal ∧ S w' ∧ Lh P n ops Q S fuel (listed.setIfInBounds i true) s' w') [⟨d, op, ty, pos, af, none⟩] s w) (hd : ∀ c, op ≠ .defer c)
    (hn : ∃ w', (execOp (s.ev n) ⟨d, op, ty, pos, af, none⟩).run P w = .ok .skip w') : Lh P n ops Q S (fuel + 1) listed s w := by
  obtain ⟨w', hrun⟩ := hn
  unfold Lh
  refine wpAnyH_all hr (by simp) ?_
  intro j hj
  obtain rfl : j = i := by simpa using hj
  unfold wpOp
  rw [hi]
  simp only [Region.wanted, if_true]
  left
  unfold Oper.wp
  rw [act_eval, hrun]
  rw [L_iff] at h
  unfold wpListIn at h
  rw [if_pos (by simp [Region.wanted])] at h
  obtain ⟨_, h⟩ := h
  rw [Oper.semAt_eq _ _ _ hd, act_eval, hrun] at h
  show S w' ∧ wpAnyH P .any ops (upQ n Q) S fuel (listed.setIfInBounds j true) ((s.act n).put d undef) w'
  obtain ⟨s', e, _, hS, hL⟩ := h
  rw [e]
  exact ⟨hS, hL⟩
theorem H_put (i : Nat) {d : Option Tmp} {op : Op} {ty : TypeId} {pos : String} {af : Array Edge} (w' : World) (hi : ops[i]? = some ⟨d, op, ty, pos, af, none⟩) (hr : Region.ready .any ops listed = [i])
    (hrun : (execOp (s.ev n) ⟨d, op, ty, pos, af, none⟩).run P w = .ok .skip w') (hS : S w') (h : Lh P n ops Q S fuel (listed.setIfInBounds i true) (s.put d undef) w') : Lh P n ops Q S (fuel + 1) listed s w := by
  unfold Lh at h ⊢
  refine wpAnyH_all hr (by simp) ?_
  intro j hj
  obtain rfl : j = i := by simpa using hj
  unfold wpOp
  rw [hi]
  simp only [Region.wanted, if_true]
  left
  unfold Oper.wp
  rw [act_eval, hrun]
  show S w' ∧ wpAnyH P .any ops (upQ n Q) S fuel (listed.setIfInBounds j true) ((s.act n).put d undef) w'
  rw [act_put]
  exact ⟨hS, h⟩
end
theorem endM_iff {P : Program} {fn : Func} {n : Nat} {R : Value → World → Prop} {e : Exit} {s : Fm} {w : World} : endM P fn n R e s w ↔ (match e with | .normal | .ret => Lv P fn n R s s.ds w | _ => False) := by
  unfold endM; cases e <;> exact Iff.rfl
theorem noPanic_endM {P : Program} {fn : Func} {n : Nat} {R : Value → World → Prop} : NoPanic (endM P fn n R) := fun c s w hq => by rw [endM_iff] at hq; exact hq
theorem cell_ch {D : Nat → Prop} {A B : World} {p : Addr} {v : Value} (h : A.cell? p = some v) (hc : Ch D A B) (hn : ¬ D p.block) : B.cell? p = some v := by
  have hlt := World.block_lt_of_cell? A p h
  unfold World.cell? at h ⊢
  rw [hc.same p.block hlt hn]; exact h
section run
variable {P : Program} {n : Nat} {s : Fm} {w : World} {d : Option Tmp} {ty : TypeId} {pos : String} {af : Array Edge} {g : Option (Nat × Bool)} {S : World → Prop}
theorem R_load {t : TypeId} {X : Operand} (b o : Nat) (v : Value) (hx : s.ev n X = .pointer (some ⟨b, o, none⟩)) (ha : ∀ w, (isAgg t).run P w = .ok false w) (hc : ∀ w', S w' → w'.cell? ⟨b, o, none⟩ = some v) :
    RunOk P n ⟨d, .load t X, ty, pos, af, g⟩ s S v := by
  intro w' hw'
  simp only [execOp, hx, Instr.loadAt, Instr.sureAddr, loadVar, Sem.run_bind, Sem.run_pure, Result.andThen_ok, ha, Bool.false_eq_true, if_false]
  simp only [load, Sem.run, hc w' hw', Result.andThen_ok]
theorem R_ixaddr {X I : Operand} {k : IntKind} {T E ke bytes : Nat} (v : Value) (i m b off : Nat) (he : Elem P T E ke bytes) (hl : Lies v b off m) (him : i < m) (hx : s.ev n X = v) (hi : s.ev n I = .int k i) :
    RunOk P n ⟨d, .indexAddr T X I, ty, pos, af, g⟩ s S (.pointer (some ⟨b, off + i * ke, none⟩)) := by
  intro w' _
  obtain ⟨c, rfl⟩ := hl
  have hb : (0 : Int) ≤ (i : Int) ∧ (i : Int) < (m : Int) := ⟨by omega, by omega⟩
  simp only [execOp, hx, hi, Instr.indexAt, asIntOf, Sem.run_bind, Sem.run_pure, Result.andThen_ok, run_underlying he.ht, hb, and_self, if_true, run_size he, Int.toNat_natCast, add_lit]
theorem storeA_run {t : TypeId} {X Y : Operand} (b o : Nat) (vs cs cs' : List Value) (E : TypeId) (hx : s.ev n X = .pointer (some ⟨b, o, none⟩)) (hy : s.ev n Y = .agg vs.toArray) (h1 : vs.all (·.oneCell') = true)
    (hz : (sizeOf t).run P w = .ok vs.length w) (hb : w.heap[b]? = some (.cells cs.toArray E (0, 0))) (ho : Nat.ble (o + vs.length) cs.length = true) (hcs : cs.take o ++ vs ++ cs.drop (o + vs.length) = cs') :
    ∃ w', (execOp (s.ev n) ⟨d, .store t X Y, ty, pos, af, none⟩).run P w = .ok .skip w' ∧ Wrote w w' b (.cells cs'.toArray E (0, 0)) := by
  subst hcs
  have hle : o + vs.length ≤ cs.length := by simpa using ho
  have hst := run_storeCells_at (P := P) b o E vs 0 cs.toArray w hb (by simpa using hle) (fun v hv => by rw [List.all_eq_true] at h1; exact h1 v hv)
  simp only [Nat.add_zero] at hst
  refine ⟨w.setRow b (cs.take o ++ vs ++ cs.drop (o + vs.length)).toArray, ?_, ⟨rfl, rfl, rfl, by simp [World.setRow], setRow_heap w b cs.toArray _ E (0, 0) hb, fun k hk => ?_⟩⟩
  · simp only [execOp, hx, hy, Instr.storeAt, Instr.sureAddr, storeVar, Sem.run_bind, Sem.run_pure, Result.andThen_ok, hz, Value.cells]
    simp only [List.size_toArray, ne_eq, not_true_eq_false, if_false, hst, Result.andThen_ok]
  · simp only [World.setRow, Array.getElem?_modify]
    rw [if_neg (fun e => hk e.symm)]
end run
section
variable {P : Program} {n : Nat} {Q : Post} {s : Fm} {w : World} {ops : Array Oper} {S : World → Prop} {fuel : Nat} {listed : Array Bool}
theorem H_storeA (i : Nat) {d : Option Tmp} {ty : TypeId} {pos : String} {af : Array Edge} {t : TypeId} {X Y : Operand} (b o : Nat) (vs cs cs' : List Value) (E : TypeId) (hi : ops[i]? = some ⟨d, .store t X Y, ty, pos, af, none⟩) (hr : Region.ready .any ops listed = [i])
    (hx : s.ev n X = .pointer (some ⟨b, o, none⟩)) (hy : s.ev n Y = .agg vs.toArray) (h1 : vs.all (·.oneCell') = true)
    (hz : (sizeOf t).run P w = .ok vs.length w) (hb : w.heap[b]? = some (.cells cs.toArray E (0, 0))) (ho : Nat.ble (o + vs.length) cs.length = true) (hcs : cs.take o ++ vs ++ cs.drop (o + vs.length) = cs')
    (h : ∀ w', Wrote w w' b (.cells cs'.toArray E (0, 0)) → S w' ∧ Lh P n ops Q S fuel (listed.setIfInBounds i true) (s.put d undef) w') : Lh P n ops Q S (fuel + 1) listed s w := by
  obtain ⟨w', hrun, hW⟩ := storeA_run (P := P) (n := n) (s := s) (w := w) (d := d) (ty := ty) (pos := pos) (af := af) b o vs cs cs' E hx hy h1 hz hb ho hcs
  obtain ⟨hS, hL⟩ := h w' hW
  exact H_put i w' hi hr hrun hS hL
end
theorem cell_old {D : Nat → Prop} {w A B : World} {p : Addr} {v : Value} (h : w.cell? p = some v) (hb : Below w.heap.size w A) (hc : Ch D A B) (hd : ∀ k, D k → w.heap.size ≤ k) : B.cell? p = some v := by
  have hlt := World.block_lt_of_cell? w p h
  have h2 := (hb.cell (p := p) hlt).trans h
  exact cell_ch h2 hc (fun e => by have := hd _ e; omega)
end Go.FK
