/- Joined by my program pack2.py out of my own texts: FKap FKbc FKbd FKai Wcb1 Wcb2 Wcsw Wcsx Wcsy Wcsz Wcspv FKbf Wcsbp. -/
import Derived.OrdersHeld
import Derived.OrdersIn
import Derived.Shelf.SlMaps.Clone
import Derived.RangeFuncBound
import Derived.Test.YtddnhlobnembaaaGreatDoorProg
import Derived.Tactics2
import Derived.Lib.BitFns
import Derived.Test.YtddnhlobnembaaaGreatDoorNT1
import Derived.Test.YtddnhlobnembaaaGreatDoorNT2
set_option linter.unusedVariables false
set_option linter.unusedSimpArgs false
/- === FKap === -/
section
/- FKap: regions that draw their order, in a round or not: a load that reads what nobody in the region writes ahead of its last operation m is taken first. As the kit's OrdersHeld, inside a fence, and the condition on the world is not asked behind m. My own text. -/
namespace Go.FK
open Go Go.RowKit
section
variable {P : Program} {ops : Array Oper} {Q : Exit → Act → World → Prop} {S : World → Prop} {m : Nat}
def wpAnyJ (P : Program) (ops : Array Oper) (Q : Exit → Act → World → Prop) (S : World → Prop) (m : Nat) : Nat → Array Bool → Act → World → Prop
  | 0, listed, a, w => Region.ready .any ops listed = [] ∧ Q .normal a w
  | fuel + 1, listed, a, w => (Region.ready .any ops listed = [] → Q .normal a w) ∧
    ∀ i ∈ Region.ready .any ops listed, wpOpIn (Fw none) 0 P ops Q i (fun a' w' => (i = m ∨ S w') ∧ wpAnyJ P ops Q S m fuel (listed.setIfInBounds i true) a' w') a w
theorem wpAnyIn_of_J : ∀ (fuel : Nat) (listed : Array Bool) (a : Act) (w : World), wpAnyJ P ops Q S m fuel listed a w → wpAnyIn (Fw none) 0 P .any ops Q fuel listed a w
 | 0, _, _, _, h => h
 | fuel + 1, _, _, _, h => ⟨h.1, fun i hi => wpOpIn_mono (fun a' w' h' => wpAnyIn_of_J fuel _ a' w' h'.2) (h.2 i hi)⟩
def YieldsJ (P : Program) (ops : Array Oper) (S : World → Prop) (o : Oper) (v : Value) (a : Act) : Prop := YieldsIf P ops S o v a ∧ ∀ w, o.about P w a.eval = none
theorem YieldsJ.wpOpIn {i : Nat} {o : Oper} {v : Value} {a : Act} (hi : ops[i]? = some o) (hy : YieldsJ P ops S o v a) {K : Act → World → Prop} {w : World} (hS : S w) (h : K (a.put o.dst v) w) : wpOpIn (Fw none) 0 P ops Q i K a w := by
 unfold Go.wpOpIn
 simp only [hi]
 have hab : ∀ f, o.about P w a.eval = some f → (Fw none).fn f := fun f hf => by rw [hy.2 w] at hf; cases hf
 have hro : (Fw none).round = none := rfl
 rcases hy.1 with ⟨hw, hv⟩ | ⟨hw, rfl⟩
 ·simp only [hw, if_true, Oper.wpIn, hro, Oper.semAt_none, hv w hS, Oper.uponIn]; exact ⟨hab, h⟩
 ·simp only [hw, Bool.false_eq_true, if_false]; exact ⟨hab, h⟩
theorem YieldsJ.of_same {o : Oper} {v : Value} {a a' : Act} (hy : YieldsJ P ops S o v a) (he : execOp a'.eval o = execOp a.eval o)
  (hw : Region.wanted o (yielded ops a'.tmps) = Region.wanted o (yielded ops a.tmps)) (hb : ∀ w, o.about P w a'.eval = o.about P w a.eval) : YieldsJ P ops S o v a' :=
 ⟨hy.1.of_same he hw, fun w => by rw [hb w]; exact hy.2 w⟩
theorem wpOpIn_putJ {j : Nat} {oi oj : Oper} {v : Value} (hj : ops[j]? = some oj) (hap : oi.apart ops oj = true)
  (hsi : ∀ cs b, oi.op ≠ .select cs b) (hsj : ∀ cs b, oj.op ≠ .select cs b)
  (hQ : ∀ c a w, Q (.panic c) (a.put oi.dst v) w → Q (.panic c) a w) {K : Act → World → Prop} {a : Act} {w : World}
  (hy : YieldsJ P ops S oi v a) (h : wpOpIn (Fw none) 0 P ops Q j K (a.put oi.dst v) w) :
  wpOpIn (Fw none) 0 P ops Q j (fun a' w' => YieldsJ P ops S oi v a' ∧ K (a'.put oi.dst v) w') a w := by
 obtain ⟨i, g, k⟩ := Oper.apart_spec hap
 have hro : (Fw none).round = none := rfl
 have keep : ∀ (a : Act), YieldsJ P ops S oi v a → ∀ u, YieldsJ P ops S oi v (a.put oj.dst u) := fun a hy u =>
  hy.of_same (execOp_put oi hsi a oj.dst u k) (wanted_put oi a oj.dst u k) (fun w => about_put oi w a oj.dst u k)
 have keepD : ∀ d, YieldsJ P ops S oi v { a with defers := d :: a.defers } := fun d => hy.of_same rfl rfl (fun _ => rfl)
 unfold wpOpIn at *
 simp only [hj] at *
 rw [wanted_put oj a oi.dst v i, about_put oj w a oi.dst v i] at h
 split
 ·rename_i hw
  simp only [hw, if_true] at h
  unfold Oper.wpIn at *
  rw [about_put oj w a oi.dst v i] at h
  refine ⟨h.1, ?_⟩
  have h := h.2
  rw [hro, Oper.semAt_none, execOp_put oj hsj a oi.dst v i] at h
  rw [hro, Oper.semAt_none]
  generalize (execOp a.eval oj).run P w = r at *
  cases r with
  | ok x w' =>
   cases x <;> simp only [Oper.uponIn] at h ⊢
   case value u => exact ⟨keep a hy u, by rw [← Act.put_comm a v u g]; exact h⟩
   case skip => exact ⟨keep a hy _, by rw [← Act.put_comm a v undef g]; exact h⟩
   case defer d =>
    refine ⟨keep _ (keepD d) _, ?_⟩
    rw [← Act.put_comm _ v undef g, ← Act.put_defers]
    exact h
   case enter f args =>
    refine ⟨h.1, CallsIn.mono h.2 fun e w'' he => ?_⟩
    cases e with
    | returned u => exact ⟨keep a hy u, by rw [← Act.put_comm a v u g]; exact he⟩
    | panicked c => exact hQ _ _ _ he
    | outgrown => exact he
   case row row args => exact ⟨h.1, RowsIn.mono h.2 fun u w'' he => ⟨keep a hy u, by rw [← Act.put_comm a v u g]; exact he⟩⟩
   case round l f tmps assign body =>
    refine ⟨h.1, RoundIn.mono h.2 fun e w'' he => ?_⟩
    cases e with
    | returned u => exact ⟨keep a hy u, by rw [← Act.put_comm a v u g]; exact he⟩
    | panicked c => exact hQ _ _ _ he
    | outgrown => exact he
  | halt x w' =>
   cases x <;> simp only [Oper.uponIn] at h ⊢
   case panic u => exact hQ _ _ _ h
 ·rename_i hw
  simp only [hw] at h
  exact ⟨h.1, keep a hy _, by rw [← Act.put_comm a v undef g]; exact h.2⟩
def waitB (ops : Array Oper) (i : Nat) (B : List Nat) : Bool := B.all fun j => Nat.beq j i || (match ops[j]? with | some o => o.after.any (fun e => Region.binds .any e && B.contains e.on) | none => false)
def freeB (L : Array Bool) (B : List Nat) : Bool := B.all fun j => !L.getD j true
theorem free_at {L : Array Bool} {B : List Nat} (h : freeB L B = true) {j : Nat} (hj : j ∈ B) : L.getD j true = false := by
 have := List.all_eq_true.1 h j hj
 simpa using this
theorem not_ready {i j : Nat} {B : List Nat} {L : Array Bool} (hw : waitB ops i B = true) (hf : freeB L B = true) (hj : j ∈ Region.ready .any ops L) (hne : j ≠ i) : j ∉ B := fun hB => by
 have a := List.all_eq_true.1 hw j hB
 obtain ⟨_, o, ho, hall⟩ := mem_ready.1 hj
 rw [ho] at a
 simp only [Bool.or_eq_true] at a
 rcases a with a | a
 ·exact hne (Nat.eq_of_beq_eq_true a)
 ·obtain ⟨e, he, hb⟩ := Array.any_eq_true'.1 a
  simp only [Bool.and_eq_true] at hb
  have c := hall e he hb.1
  have b := free_at hf (List.contains_iff_mem.1 hb.2)
  rcases Nat.lt_or_ge e.on L.size with hs | hs
  ·simp [hs] at c b; rw [c] at b; cases b
  ·simp [Array.getElem?_eq_none hs] at c
theorem free_set {j : Nat} {B : List Nat} {L : Array Bool} (hf : freeB L B = true) (hj : j ∉ B) : freeB (L.setIfInBounds j true) B = true := by
 refine List.all_eq_true.2 fun k hk => ?_
 have := free_at hf hk
 have hjk : j ≠ k := fun e => hj (by rw [e]; exact hk)
 rw [getD_set_ne true hjk, this]; rfl
theorem wpAnyJ_first {i : Nat} {oi : Oper} {v : Value} {B : List Nat} (hi : ops[i]? = some oi) (hsel : ∀ (j : Nat) (o : Oper) cs b, ops[j]? = some o → o.op ≠ .select cs b)
  (hQ : ∀ c a w, Q (.panic c) (a.put oi.dst v) w → Q (.panic c) a w) (hw : waitB ops i B = true) (hm : m ∈ B) :
  ∀ (fuel : Nat) (listed : Array Bool) (a : Act) (w : World),
   (∀ j oj, ops[j]? = some oj → j ≠ i → listed.getD j true = false → (∀ e ∈ oj.after, Region.binds .any e = true → e.on ≠ i) → oi.apart ops oj = true) →
   i ∈ Region.ready .any ops listed → freeB listed B = true → YieldsJ P ops S oi v a → S w →
   wpAnyJ P ops Q S m fuel (listed.setIfInBounds i true) (a.put oi.dst v) w → wpAnyJ P ops Q S m (fuel + 1) listed a w := by
 intro fuel
 induction fuel with
 | zero =>
  intro listed a w _ hr hf hy hS H
  refine ⟨fun h => (by rw [h] at hr; cases hr), fun j hj => ?_⟩
  by_cases hji : j = i
  ·subst hji; exact hy.wpOpIn hi hS ⟨.inr hS, H⟩
  ·have := ready_mono hj hji
   rw [H.1] at this
   cases this
 | succ fuel ih =>
  intro listed a w hfree hr hf hy hS H
  refine ⟨fun h => (by rw [h] at hr; cases hr), fun j hj => ?_⟩
  by_cases hji : j = i
  ·subst hji; exact hy.wpOpIn hi hS ⟨.inr hS, H⟩
  ·have d := H.2 j (ready_mono hj hji)
   obtain ⟨hjun, oj, hoj, hall⟩ := mem_ready.1 hj
   have hnot : ∀ e ∈ oj.after, Region.binds .any e = true → e.on ≠ i := fun e he hb heq => by
    have d := hall e he hb
    have f := (mem_ready.1 hr).1
    rw [heq] at d
    rcases Nat.lt_or_ge i listed.size with h' | h'
    ·simp [h'] at f d; rw [f] at d; cases d
    ·simp [Array.getElem?_eq_none h'] at d
   have g := wpOpIn_putJ hoj (hfree j oj hoj hji hjun hnot) (fun cs b => hsel i oi cs b hi) (fun cs b => hsel j oj cs b hoj) hQ hy d
   have hjB := not_ready hw hf hj hji
   have hfree' : ∀ k ok, ops[k]? = some ok → k ≠ i → (listed.setIfInBounds j true).getD k true = false →
     (∀ e ∈ ok.after, Region.binds .any e = true → e.on ≠ i) → oi.apart ops ok = true := fun k ok hk hki hun hno => by
    refine hfree k ok hk hki ?_ hno
    by_cases hjk : j = k
    ·subst hjk; exact hjun
    ·rw [getD_set_ne true hjk] at hun; exact hun
   refine wpOpIn_mono (fun a' w' h3 => ?_) g
   obtain ⟨hy', hjm, hk⟩ := h3
   have hS' : S w' := hjm.resolve_left (fun e => hjB (e ▸ hm))
   refine ⟨.inr hS', ih (listed.setIfInBounds j true) a' w' hfree' (ready_mono hr (Ne.symm hji)) (free_set hf hjB) hy' hS' ?_⟩
   rw [Array.setIfInBounds_comm _ _ hji]
   exact hk
end
section
variable {P : Program} {n : Nat} {Q : Post} {s : Fm} {w : World} {ops : Array Oper} {S : World → Prop} {m fuel : Nat} {listed : Array Bool}
def Lj (P : Program) (n : Nat) (ops : Array Oper) (Q : Post) (S : World → Prop) (m fuel : Nat) (listed : Array Bool) (s : Fm) (w : World) : Prop := wpAnyJ P ops (upQ n Q) S m fuel listed (s.act n) w
theorem W_heldJ {r : Option Nat} {id : Nat} {l : List Oper} (m N : Nat) (hN : Nat.beq l.length N = true) (hm : P.follows .mixedOrders = true) (hd : noDefers l.toArray = true)
  (h : ∀ w', Below w.heap.size w w' → ∃ S, Lj P n l.toArray Q S m N (Array.replicate N false) s w') : W r P n (.region id l.toArray true) Q s w := by
 refine W_draws N hN hm hd fun w' hw' => ?_
 obtain ⟨S, hS⟩ := h w' hw'
 unfold Li
 exact wpAnyIn_of_J _ _ _ _ hS
theorem J_take (i : Nat) (B : List Nat) {o : Oper} (v : Value) (hi : ops[i]? = some o) (hs : Region.noSelect ops = true) (hf : Region.free .any ops listed i = true) (hr : (Region.ready .any ops listed).contains i = true)
  (hc : noCall o.op = true) (hw : wantB ops n s o.guard = true) (hb : waitB ops i B = true) (hB : freeB listed B = true) (hm : B.contains m = true) (hq : NoPanic Q) (hS : S w) (hrun : RunOk P n o s S v) (h : Lj P n ops Q S m fuel (listed.setIfInBounds i true) (s.put o.dst v) w) : Lj P n ops Q S m (fuel + 1) listed s w := by
 unfold Lj at h ⊢
 refine wpAnyJ_first (v := v) hi (Region.noSelect_spec hs) ?_ hb (List.contains_iff_mem.1 hm) fuel listed (s.act n) w (Region.free_spec hi hf) (by simpa using hr) hB ⟨.inl ⟨?_, ?_⟩, fun w => about_none hc w _⟩ hS ?_
 ·intro c a w hp
  obtain ⟨s', _, hp⟩ := hp
  exact absurd hp (hq c s' w)
 ·rw [qD]; exact hw
 ·intro w' hw'; rw [qC]; exact hrun w' hw'
 ·rw [qH]; exact h
theorem vQ (hr : Region.ready .any ops listed = []) (h : Q .normal s w) : Lj P n ops Q S m fuel listed s w := by
 unfold Lj
 cases fuel with
 | zero => exact ⟨hr, s, rfl, h⟩
 | succ k => exact ⟨fun _ => ⟨s, rfl, h⟩, by rw [hr]; simp⟩
def Jop (P : Program) (n : Nat) (ops : Array Oper) (Q : Post) (S : World → Prop) (m fuel : Nat) (listed : Array Bool) (i : Nat) (s : Fm) (w : World) : Prop :=
  wpOpIn (Fw none) 0 P ops (upQ n Q) i (fun a' w' => (i = m ∨ S w') ∧ wpAnyJ P ops (upQ n Q) S m fuel (listed.setIfInBounds i true) a' w') (s.act n) w
theorem wF (i : Nat) (hr : Region.ready .any ops listed = [i]) (h : Jop P n ops Q S m fuel listed i s w) : Lj P n ops Q S m (fuel + 1) listed s w := by
 unfold Lj
 refine ⟨fun h0 => (by rw [hr] at h0; cases h0), fun j hj => ?_⟩
 rw [hr] at hj
 obtain rfl : j = i := by simpa using hj
 exact h
theorem J_all2 (i k : Nat) (hr : Region.ready .any ops listed = [i, k]) (h : Jop P n ops Q S m fuel listed i s w) (h2 : Jop P n ops Q S m fuel listed k s w) : Lj P n ops Q S m (fuel + 1) listed s w := by
 unfold Lj
 refine ⟨fun h0 => (by rw [hr] at h0; cases h0), fun j hj => ?_⟩
 rw [hr] at hj
 simp only [List.mem_cons, List.not_mem_nil, or_false] at hj
 rcases hj with rfl | rfl
 ·exact h
 ·exact h2
theorem wY (i : Nat) {o : Oper} (hi : ops[i]? = some o)
  (h : L none P n ops (fun e s' w' => e = .normal ∧ (i = m ∨ S w') ∧ Lj P n ops Q S m fuel (listed.setIfInBounds i true) s' w') [o] s w) (hg : o.guard = none) : Jop P n ops Q S m fuel listed i s w := by
 unfold Jop wpOpIn
 rw [hi]
 rw [L_iff] at h
 unfold wpListIn at h
 have hwant : Region.wanted o (yielded ops (s.act n).tmps) = true := by rw [qD, hg]; rfl
 rw [if_pos hwant] at h
 simp only [hwant, if_true]
 have key : ∀ {a w'}, wpListIn (Fw none) 0 P ops (upQ n fun e s' w' => e = .normal ∧ (i = m ∨ S w') ∧ Lj P n ops Q S m fuel (listed.setIfInBounds i true) s' w') [] a w' → ((i = m ∨ S w') ∧ wpAnyJ P ops (upQ n Q) S m fuel (listed.setIfInBounds i true) a w') := by
  rintro a w' ⟨s', rfl, _, hL⟩
  exact hL
 have h := Oper.wpIn_mono (fun a w => key) h
 unfold Oper.wpIn at h ⊢
 refine ⟨h.1, ?_⟩
 have b := h.2
 generalize (o.semAt (Fw none).round (s.act n).eval).run P w = r at b
 cases r with
 | ok x w' =>
  cases x <;> simp only [Oper.uponIn] at b ⊢ <;> first
   | exact b
   | exact ⟨b.1, CallsIn.mono b.2 (fun e w'' he => by
     cases e with
     | returned v => exact he
     | panicked c => obtain ⟨s', _, he, _⟩ := he; cases he
     | outgrown => exfalso; obtain ⟨_, _, s', _, he, _⟩ := he; cases he)⟩
   | exact ⟨b.1, RoundIn.mono b.2 (fun e w'' he => by
     cases e with
     | returned v => exact he
     | panicked c => obtain ⟨s', _, he, _⟩ := he; cases he
     | outgrown => exfalso; obtain ⟨_, _, s', _, he, _⟩ := he; cases he)⟩
 | halt x w' =>
  cases x <;> first
   | (exfalso; simp only [Oper.uponIn] at b; obtain ⟨s', _, he, _⟩ := b; cases he)
   | exact b
end
section
variable {P : Program} {n : Nat} {Q : Post} {s : Fm} {w : World} {ops : Array Oper} {S : World → Prop} {m fuel : Nat} {listed : Array Bool}
theorem jt (i : Nat) (B : List Nat) {o : Oper} (hi : ops[i]? = some o) (v : Value) (hS : S w) (hrun : RunOk P n o s S v) (h : Lj P n ops Q S m fuel (listed.setIfInBounds i true) (s.put o.dst v) w)
  (hs : Region.noSelect ops = true := by kernel_rfl) (hf : Region.free .any ops listed i = true := by kernel_rfl) (hr : (Region.ready .any ops listed).contains i = true := by kernel_rfl) (hc : noCall o.op = true := by kernel_rfl) (hw : wantB ops n s o.guard = true := by kernel_rfl) (hb : waitB ops i B = true := by kernel_rfl) (hB : freeB listed B = true := by kernel_rfl) (hm : B.contains m = true := by kernel_rfl)
  (hq : NoPanic Q := by with_reducible first | exact zG | exact yY | exact qJ) : Lj P n ops Q S m (fuel + 1) listed s w :=
 J_take i B v hi hs hf hr hc hw hb hB hm hq hS hrun h
theorem jp (i : Nat) (B : List Nat) {o : Oper} (hi : ops[i]? = some o) (v : Value) (hS : S w) (h : Lj P n ops Q S m fuel (listed.setIfInBounds i true) (s.put o.dst v) w)
  (hs : Region.noSelect ops = true := by kernel_rfl) (hf : Region.free .any ops listed i = true := by kernel_rfl) (hr : (Region.ready .any ops listed).contains i = true := by kernel_rfl) (hc : noCall o.op = true := by kernel_rfl) (hw : wantB ops n s o.guard = true := by kernel_rfl) (hb : waitB ops i B = true := by kernel_rfl) (hB : freeB listed B = true := by kernel_rfl) (hm : B.contains m = true := by kernel_rfl)
  (hq : NoPanic Q := by with_reducible first | exact zG | exact yY | exact qJ) (hrun : RunOk P n o s S v := by exact fun _ _ => by kernel_rfl) : Lj P n ops Q S m (fuel + 1) listed s w :=
 J_take i B v hi hs hf hr hc hw hb hB hm hq hS hrun h
end
attribute [irreducible] Jop Lj
end Go.FK
end

/- === FKbc === -/
section
/- FKbc: in a region whose operations may come in any order: numbers added, the address of an element: they hang on no world. My own text. -/
namespace Go.FK
open Go Go.RowKit
section
variable {P : Program} {n : Nat} {s : Fm} {d : Option Tmp} {ty : TypeId} {pos : String} {af : Array Edge} {g : Option (Nat × Bool)}
theorem RI_arith {op : BinOp} {t yt : TypeId} {X Y : Operand} {k : IntKind} (x y z : Int) (hop : isArith op = true) (hx : s.ev n X = .int k x) (hy : s.ev n Y = .int k y) (hz : k.wrap (arithZ op x y) = z) :
  ∀ w', (execOp (s.ev n) ⟨d, .binOp op t X Y yt, ty, pos, af, g⟩).run P w' = .ok (.value (.int k z)) w' := by
 intro w'
 have a : (binOp op t (.int k x) (.int k y)).run P w' = .ok (.int k z) w' := by
  subst hz
  cases op <;> first | (simp [isArith] at hop; done) | (simp [binOp, Op.intArith, arithZ, Sem.run_pure])
 have b := wA (P := P) (w := w') (op := op) (t := t) (k := k) (x := x) (k' := k) (y := y)
 simp only [execOp, hx, hy, Sem.run_bind, a, b, Result.andThen_ok, Sem.run_pure]
theorem wQ {t yt : TypeId} {X Y : Operand} (a b : Nat) (hb : a + b ≤ 9223372036854775807) (hx : s.ev n X = .int .i64 a) (hy : s.ev n Y = .int .i64 b) :
  ∀ w', (execOp (s.ev n) ⟨d, .binOp .add t X Y yt, ty, pos, af, g⟩).run P w' = .ok (.value (.int .i64 ((a + b : Nat) : Int))) w' :=
 RI_arith a b _ rfl hx hy (by rw [show arithZ .add (a : Int) b = ((a + b : Nat) : Int) by simp [arithZ]]; exact xM _ (by omega) (by omega))
theorem RI_subN {t yt : TypeId} {X Y : Operand} (a b : Nat) (hb : b ≤ a) (ha : a ≤ 9223372036854775807) (hx : s.ev n X = .int .i64 a) (hy : s.ev n Y = .int .i64 b) :
  ∀ w', (execOp (s.ev n) ⟨d, .binOp .sub t X Y yt, ty, pos, af, g⟩).run P w' = .ok (.value (.int .i64 ((a - b : Nat) : Int))) w' :=
 RI_arith a b _ rfl hx hy (by rw [show arithZ .sub (a : Int) b = ((a - b : Nat) : Int) by simp [arithZ]; omega]; exact xM _ (by omega) (by omega))
end
theorem Rd.later {α : Type} {w : World} {k : Nat} {enc : α → List Value} {v : Value} {xs : List α} (h : Rd w enc v xs) (hk : ∀ x, (enc x).length = k) {i : Nat} {x : α} {g off m : Nat} (hl : Lies v g off m) (hx : xs[i]? = some x) :
  ∀ j u, (enc x)[j]? = some u → w.cell? ⟨g, off + i * k + j, none⟩ = some u := by
 obtain ⟨f, a, ⟨e, d⟩, b⟩ := h.at hk hx
 obtain ⟨c, rfl⟩ := hl
 injection d with e1 _ _
 injection e1 with e1
 injection e1 with e2 e3
 subst e2 e3
 exact b
section
variable {P : Program} {n : Nat} {s : Fm} {d : Option Tmp} {ty : TypeId} {pos : String} {af : Array Edge} {g : Option (Nat × Bool)} {S : World → Prop}
theorem R_ixaddrZ {X I : Operand} {k : IntKind} {T E ke bytes : Nat} (v : Value) (z : Int) (i m b off : Nat) (hz : z = (i : Int)) (he : Elem P T E ke bytes) (hl : Lies v b off m) (him : i < m) (hx : s.ev n X = v) (hi : s.ev n I = .int k z) :
  RunOk P n ⟨d, .indexAddr T X I, ty, pos, af, g⟩ s S (.pointer (some ⟨b, off + i * ke, none⟩)) := by
 subst hz; exact yJ v i m b off he hl him hx hi
end
end Go.FK
end

/- === FKbd === -/
section
/- FKbd: regions that draw their order, as FKap, but the condition on the world is asked only until the operation m has come; an operation that hangs on no world is taken first, whoever waits for it; a look into a map; a map copied, a map taken back out of an interface. My own text. -/
namespace Go.FK
open Go Go.RowKit Go.Proofs
section
variable {P : Program} {ops : Array Oper} {Q : Exit → Act → World → Prop} {S : World → Prop} {m : Nat}
def wpAnyM (P : Program) (ops : Array Oper) (Q : Exit → Act → World → Prop) (S : World → Prop) (m : Nat) : Nat → Array Bool → Act → World → Prop
  | 0, listed, a, w => Region.ready .any ops listed = [] ∧ Q .normal a w
  | fuel + 1, listed, a, w => (Region.ready .any ops listed = [] → Q .normal a w) ∧
    ∀ i ∈ Region.ready .any ops listed, wpOpIn (Fw none) 0 P ops Q i (fun a' w' => ((listed.setIfInBounds i true).getD m true = true ∨ S w') ∧ wpAnyM P ops Q S m fuel (listed.setIfInBounds i true) a' w') a w
theorem wpAnyIn_of_M : ∀ (fuel : Nat) (listed : Array Bool) (a : Act) (w : World), wpAnyM P ops Q S m fuel listed a w → wpAnyIn (Fw none) 0 P .any ops Q fuel listed a w
 | 0, _, _, _, h => h
 | fuel + 1, _, _, _, h => ⟨h.1, fun i hi => wpOpIn_mono (fun a' w' h' => wpAnyIn_of_M fuel _ a' w' h'.2) (h.2 i hi)⟩
theorem wpAnyM_first {i : Nat} {oi : Oper} {v : Value} {B : List Nat} (hi : ops[i]? = some oi) (hsel : ∀ (j : Nat) (o : Oper) cs b, ops[j]? = some o → o.op ≠ .select cs b)
  (hQ : ∀ c a w, Q (.panic c) (a.put oi.dst v) w → Q (.panic c) a w) (hw : waitB ops i B = true) (hm : m ∈ B) (hmi : m ≠ i) :
  ∀ (fuel : Nat) (listed : Array Bool) (a : Act) (w : World),
   (∀ j oj, ops[j]? = some oj → j ≠ i → listed.getD j true = false → (∀ e ∈ oj.after, Region.binds .any e = true → e.on ≠ i) → oi.apart ops oj = true) →
   i ∈ Region.ready .any ops listed → freeB listed B = true → YieldsJ P ops S oi v a → S w →
   wpAnyM P ops Q S m fuel (listed.setIfInBounds i true) (a.put oi.dst v) w → wpAnyM P ops Q S m (fuel + 1) listed a w := by
 intro fuel
 induction fuel with
 | zero =>
  intro listed a w _ hr hf hy hS H
  refine ⟨fun h => (by rw [h] at hr; cases hr), fun j hj => ?_⟩
  by_cases hji : j = i
  ·subst hji; exact hy.wpOpIn hi hS ⟨.inr hS, H⟩
  ·have := ready_mono hj hji
   rw [H.1] at this
   cases this
 | succ fuel ih =>
  intro listed a w hfree hr hf hy hS H
  refine ⟨fun h => (by rw [h] at hr; cases hr), fun j hj => ?_⟩
  by_cases hji : j = i
  ·subst hji; exact hy.wpOpIn hi hS ⟨.inr hS, H⟩
  ·have d := H.2 j (ready_mono hj hji)
   obtain ⟨hjun, oj, hoj, hall⟩ := mem_ready.1 hj
   have hnot : ∀ e ∈ oj.after, Region.binds .any e = true → e.on ≠ i := fun e he hb heq => by
    have d := hall e he hb
    have f := (mem_ready.1 hr).1
    rw [heq] at d
    rcases Nat.lt_or_ge i listed.size with h' | h'
    ·simp [h'] at f d; rw [f] at d; cases d
    ·simp [Array.getElem?_eq_none h'] at d
   have g := wpOpIn_putJ hoj (hfree j oj hoj hji hjun hnot) (fun cs b => hsel i oi cs b hi) (fun cs b => hsel j oj cs b hoj) hQ hy d
   have hfree' : ∀ k ok, ops[k]? = some ok → k ≠ i → (listed.setIfInBounds j true).getD k true = false →
     (∀ e ∈ ok.after, Region.binds .any e = true → e.on ≠ i) → oi.apart ops ok = true := fun k ok hk hki hun hno => by
    refine hfree k ok hk hki ?_ hno
    by_cases hjk : j = k
    ·subst hjk; exact hjun
    ·rw [getD_set_ne true hjk] at hun; exact hun
   refine wpOpIn_mono (fun a' w' h3 => ?_) g
   obtain ⟨hy', hjm, hk⟩ := h3
   rw [Array.setIfInBounds_comm _ _ (Ne.symm hji), getD_set_ne true (Ne.symm hmi)] at hjm
   have hjB := not_ready hw hf hj hji
   have hS' : S w' := by
    rcases hjm with hjm | hjm
    ·rw [getD_set_ne true (fun e : j = m => hjB (by rw [e]; exact hm)), free_at hf hm] at hjm; cases hjm
    ·exact hjm
   refine ⟨hjm, ih (listed.setIfInBounds j true) a' w' hfree' (ready_mono hr (Ne.symm hji)) (free_set hf hjB) hy' hS' ?_⟩
   rw [Array.setIfInBounds_comm _ _ hji]
   exact hk
theorem wpAnyM_pure {i : Nat} {oi : Oper} {v : Value} (hi : ops[i]? = some oi) (hsel : ∀ (j : Nat) (o : Oper) cs b, ops[j]? = some o → o.op ≠ .select cs b)
  (hQ : ∀ c a w, Q (.panic c) (a.put oi.dst v) w → Q (.panic c) a w) (hmi : m ≠ i) :
  ∀ (fuel : Nat) (listed : Array Bool) (a : Act) (w : World),
   (∀ j oj, ops[j]? = some oj → j ≠ i → listed.getD j true = false → (∀ e ∈ oj.after, Region.binds .any e = true → e.on ≠ i) → oi.apart ops oj = true) →
   i ∈ Region.ready .any ops listed → YieldsJ P ops (fun _ => True) oi v a → (listed.getD m true = true ∨ S w) →
   wpAnyM P ops Q S m fuel (listed.setIfInBounds i true) (a.put oi.dst v) w → wpAnyM P ops Q S m (fuel + 1) listed a w := by
 intro fuel
 induction fuel with
 | zero =>
  intro listed a w _ hr hy hS H
  refine ⟨fun h => (by rw [h] at hr; cases hr), fun j hj => ?_⟩
  by_cases hji : j = i
  ·subst hji; exact hy.wpOpIn hi trivial ⟨by rw [getD_set_ne true (Ne.symm hmi)]; exact hS, H⟩
  ·have := ready_mono hj hji
   rw [H.1] at this
   cases this
 | succ fuel ih =>
  intro listed a w hfree hr hy hS H
  refine ⟨fun h => (by rw [h] at hr; cases hr), fun j hj => ?_⟩
  by_cases hji : j = i
  ·subst hji; exact hy.wpOpIn hi trivial ⟨by rw [getD_set_ne true (Ne.symm hmi)]; exact hS, H⟩
  ·have d := H.2 j (ready_mono hj hji)
   obtain ⟨hjun, oj, hoj, hall⟩ := mem_ready.1 hj
   have hnot : ∀ e ∈ oj.after, Region.binds .any e = true → e.on ≠ i := fun e he hb heq => by
    have d := hall e he hb
    have f := (mem_ready.1 hr).1
    rw [heq] at d
    rcases Nat.lt_or_ge i listed.size with h' | h'
    ·simp [h'] at f d; rw [f] at d; cases d
    ·simp [Array.getElem?_eq_none h'] at d
   have g := wpOpIn_putJ hoj (hfree j oj hoj hji hjun hnot) (fun cs b => hsel i oi cs b hi) (fun cs b => hsel j oj cs b hoj) hQ hy d
   have hfree' : ∀ k ok, ops[k]? = some ok → k ≠ i → (listed.setIfInBounds j true).getD k true = false →
     (∀ e ∈ ok.after, Region.binds .any e = true → e.on ≠ i) → oi.apart ops ok = true := fun k ok hk hki hun hno => by
    refine hfree k ok hk hki ?_ hno
    by_cases hjk : j = k
    ·subst hjk; exact hjun
    ·rw [getD_set_ne true hjk] at hun; exact hun
   refine wpOpIn_mono (fun a' w' h3 => ?_) g
   obtain ⟨hy', hjm, hk⟩ := h3
   rw [Array.setIfInBounds_comm _ _ (Ne.symm hji), getD_set_ne true (Ne.symm hmi)] at hjm
   skip
   refine ⟨hjm, ih (listed.setIfInBounds j true) a' w' hfree' (ready_mono hr (Ne.symm hji)) hy' hjm ?_⟩
   rw [Array.setIfInBounds_comm _ _ hji]
   exact hk
end
section
variable {P : Program} {n : Nat} {Q : Post} {s : Fm} {w : World} {ops : Array Oper} {S : World → Prop} {m fuel : Nat} {listed : Array Bool}
def Lm (P : Program) (n : Nat) (ops : Array Oper) (Q : Post) (S : World → Prop) (m fuel : Nat) (listed : Array Bool) (s : Fm) (w : World) : Prop := wpAnyM P ops (upQ n Q) S m fuel listed (s.act n) w
theorem xD {r : Option Nat} {id : Nat} {l : List Oper} (m N : Nat) (hN : Nat.beq l.length N = true) (hm : P.follows .mixedOrders = true) (hd : noDefers l.toArray = true)
  (h : ∀ w', Below w.heap.size w w' → ∃ S, Lm P n l.toArray Q S m N (Array.replicate N false) s w') : W r P n (.region id l.toArray true) Q s w := by
 refine W_draws N hN hm hd fun w' hw' => ?_
 obtain ⟨S, hS⟩ := h w' hw'
 unfold Li
 exact wpAnyIn_of_M _ _ _ _ hS
theorem M_take (i : Nat) (B : List Nat) {o : Oper} (v : Value) (hi : ops[i]? = some o) (hs : Region.noSelect ops = true) (hf : Region.free .any ops listed i = true) (hr : (Region.ready .any ops listed).contains i = true)
  (hc : noCall o.op = true) (hw : wantB ops n s o.guard = true) (hb : waitB ops i B = true) (hB : freeB listed B = true) (hm : B.contains m = true) (hmi : Nat.beq m i = false) (hq : NoPanic Q) (hS : S w) (hrun : RunOk P n o s S v) (h : Lm P n ops Q S m fuel (listed.setIfInBounds i true) (s.put o.dst v) w) : Lm P n ops Q S m (fuel + 1) listed s w := by
 unfold Lm at h ⊢
 refine wpAnyM_first (v := v) hi (Region.noSelect_spec hs) ?_ hb (List.contains_iff_mem.1 hm) (fun e => by rw [e, Nat.beq_refl] at hmi; cases hmi) fuel listed (s.act n) w (Region.free_spec hi hf) (by simpa using hr) hB ⟨.inl ⟨?_, ?_⟩, fun w => about_none hc w _⟩ hS ?_
 ·intro c a w hp
  obtain ⟨s', _, hp⟩ := hp
  exact absurd hp (hq c s' w)
 ·rw [qD]; exact hw
 ·intro w' hw'; rw [qC]; exact hrun w' hw'
 ·rw [qH]; exact h
theorem M_pure (i : Nat) {o : Oper} (v : Value) (hi : ops[i]? = some o) (hs : Region.noSelect ops = true) (hf : Region.free .any ops listed i = true) (hr : (Region.ready .any ops listed).contains i = true)
  (hc : noCall o.op = true) (hw : wantB ops n s o.guard = true) (hmi : Nat.beq m i = false) (hq : NoPanic Q) (hS : listed.getD m true = true ∨ S w) (hrun : RunOk P n o s (fun _ => True) v) (h : Lm P n ops Q S m fuel (listed.setIfInBounds i true) (s.put o.dst v) w) : Lm P n ops Q S m (fuel + 1) listed s w := by
 unfold Lm at h ⊢
 refine wpAnyM_pure (v := v) hi (Region.noSelect_spec hs) ?_ (fun e => by rw [e, Nat.beq_refl] at hmi; cases hmi) fuel listed (s.act n) w (Region.free_spec hi hf) (by simpa using hr) ⟨.inl ⟨?_, ?_⟩, fun w => about_none hc w _⟩ hS ?_
 ·intro c a w hp
  obtain ⟨s', _, hp⟩ := hp
  exact absurd hp (hq c s' w)
 ·rw [qD]; exact hw
 ·intro w' hw'; rw [qC]; exact hrun w' hw'
 ·rw [qH]; exact h
theorem yT (hr : Region.ready .any ops listed = []) (h : Q .normal s w) : Lm P n ops Q S m fuel listed s w := by
 unfold Lm
 cases fuel with
 | zero => exact ⟨hr, s, rfl, h⟩
 | succ k => exact ⟨fun _ => ⟨s, rfl, h⟩, by rw [hr]; simp⟩
def Mop (P : Program) (n : Nat) (ops : Array Oper) (Q : Post) (S : World → Prop) (m fuel : Nat) (listed : Array Bool) (i : Nat) (s : Fm) (w : World) : Prop :=
  wpOpIn (Fw none) 0 P ops (upQ n Q) i (fun a' w' => ((listed.setIfInBounds i true).getD m true = true ∨ S w') ∧ wpAnyM P ops (upQ n Q) S m fuel (listed.setIfInBounds i true) a' w') (s.act n) w
theorem yH (i : Nat) (hr : Region.ready .any ops listed = [i]) (h : Mop P n ops Q S m fuel listed i s w) : Lm P n ops Q S m (fuel + 1) listed s w := by
 unfold Lm
 refine ⟨fun h0 => (by rw [hr] at h0; cases h0), fun j hj => ?_⟩
 rw [hr] at hj
 obtain rfl : j = i := by simpa using hj
 exact h
theorem wG (i k : Nat) (hr : Region.ready .any ops listed = [i, k]) (h : Mop P n ops Q S m fuel listed i s w) (h2 : Mop P n ops Q S m fuel listed k s w) : Lm P n ops Q S m (fuel + 1) listed s w := by
 unfold Lm
 refine ⟨fun h0 => (by rw [hr] at h0; cases h0), fun j hj => ?_⟩
 rw [hr] at hj
 simp only [List.mem_cons, List.not_mem_nil, or_false] at hj
 rcases hj with rfl | rfl
 ·exact h
 ·exact h2
theorem yR (i : Nat) {o : Oper} (hi : ops[i]? = some o)
  (h : L none P n ops (fun e s' w' => e = .normal ∧ ((listed.setIfInBounds i true).getD m true = true ∨ S w') ∧ Lm P n ops Q S m fuel (listed.setIfInBounds i true) s' w') [o] s w) (hg : wantB ops n s o.guard = true) : Mop P n ops Q S m fuel listed i s w := by
 unfold Mop wpOpIn
 rw [hi]
 rw [L_iff] at h
 unfold wpListIn at h
 have hwant : Region.wanted o (yielded ops (s.act n).tmps) = true := by rw [qD]; exact hg
 rw [if_pos hwant] at h
 simp only [hwant, if_true]
 have key : ∀ {a w'}, wpListIn (Fw none) 0 P ops (upQ n fun e s' w' => e = .normal ∧ ((listed.setIfInBounds i true).getD m true = true ∨ S w') ∧ Lm P n ops Q S m fuel (listed.setIfInBounds i true) s' w') [] a w' → (((listed.setIfInBounds i true).getD m true = true ∨ S w') ∧ wpAnyM P ops (upQ n Q) S m fuel (listed.setIfInBounds i true) a w') := by
  rintro a w' ⟨s', rfl, _, hL⟩
  exact hL
 have h := Oper.wpIn_mono (fun a w => key) h
 unfold Oper.wpIn at h ⊢
 refine ⟨h.1, ?_⟩
 have b := h.2
 generalize (o.semAt (Fw none).round (s.act n).eval).run P w = r at b
 cases r with
 | ok x w' =>
  cases x <;> simp only [Oper.uponIn] at b ⊢ <;> first
   | exact b
   | exact ⟨b.1, CallsIn.mono b.2 (fun e w'' he => by
     cases e with
     | returned v => exact he
     | panicked c => obtain ⟨s', _, he, _⟩ := he; cases he
     | outgrown => exfalso; obtain ⟨_, _, s', _, he, _⟩ := he; cases he)⟩
   | exact ⟨b.1, RoundIn.mono b.2 (fun e w'' he => by
     cases e with
     | returned v => exact he
     | panicked c => obtain ⟨s', _, he, _⟩ := he; cases he
     | outgrown => exfalso; obtain ⟨_, _, s', _, he, _⟩ := he; cases he)⟩
 | halt x w' =>
  cases x <;> first
   | (exfalso; simp only [Oper.uponIn] at b; obtain ⟨s', _, he, _⟩ := b; cases he)
   | exact b
theorem mt (i : Nat) (B : List Nat) {o : Oper} (hi : ops[i]? = some o) (v : Value) (hS : S w) (hrun : RunOk P n o s S v) (h : Lm P n ops Q S m fuel (listed.setIfInBounds i true) (s.put o.dst v) w)
  (hs : Region.noSelect ops = true := by kernel_rfl) (hf : Region.free .any ops listed i = true := by kernel_rfl) (hr : (Region.ready .any ops listed).contains i = true := by kernel_rfl) (hc : noCall o.op = true := by kernel_rfl) (hw : wantB ops n s o.guard = true := by kernel_rfl) (hb : waitB ops i B = true := by kernel_rfl) (hB : freeB listed B = true := by kernel_rfl) (hm : B.contains m = true := by kernel_rfl) (hmi : Nat.beq m i = false := by kernel_rfl)
  (hq : NoPanic Q := by with_reducible first | exact zG | exact yY | exact qJ) : Lm P n ops Q S m (fuel + 1) listed s w :=
 M_take i B v hi hs hf hr hc hw hb hB hm hmi hq hS hrun h
theorem mp (i : Nat) {o : Oper} (hi : ops[i]? = some o) (v : Value) (hS : listed.getD m true = true ∨ S w) (hrun : RunOk P n o s (fun _ => True) v) (h : Lm P n ops Q S m fuel (listed.setIfInBounds i true) (s.put o.dst v) w)
  (hs : Region.noSelect ops = true := by kernel_rfl) (hf : Region.free .any ops listed i = true := by kernel_rfl) (hr : (Region.ready .any ops listed).contains i = true := by kernel_rfl) (hc : noCall o.op = true := by kernel_rfl) (hw : wantB ops n s o.guard = true := by kernel_rfl) (hmi : Nat.beq m i = false := by kernel_rfl)
  (hq : NoPanic Q := by with_reducible first | exact zG | exact yY | exact qJ) : Lm P n ops Q S m (fuel + 1) listed s w :=
 M_pure i v hi hs hf hr hc hw hmi hq hS hrun h
end
attribute [irreducible] Mop Lm
section
variable {α : Type} {f : α → Value}
variable {P : Program} {n : Nat} {s : Fm} {d : Option Tmp} {ty : TypeId} {pos : String} {af : Array Edge} {g : Option (Nat × Bool)} {S : World → Prop}
theorem R_glook {T kt et : TypeId} {X Y : Operand} {k : IntKind} {v : Value} (a0 : α) (x : Int) (l : List (Int × α)) (ht : P.underlying T = some (.map kt et)) (hk : P.underlying kt = some (.int k)) (hz : (P.info? et).map (·.zero) = some (some (f a0)))
  (hX : s.ev n X = v) (hY : s.ev n Y = .int k x) (hv : ∀ w, S w → GmAt k f w v l) : RunOk P n ⟨d, .lookup T X Y true, ty, pos, af, g⟩ s S (.tuple #[f ((gget l x).getD a0), .bool (gget l x).isSome]) := by
 intro w hw
 simp only [execOp, hX, hY, Sem.run_bind, run_lookG a0 x l true ht hk hz (hv w hw), Result.andThen_ok, Sem.run_pure]; rfl
theorem R_glook1 {T kt et : TypeId} {X Y : Operand} {k : IntKind} {v : Value} (a0 : α) (x : Int) (l : List (Int × α)) (ht : P.underlying T = some (.map kt et)) (hk : P.underlying kt = some (.int k)) (hz : (P.info? et).map (·.zero) = some (some (f a0)))
  (hX : s.ev n X = v) (hY : s.ev n Y = .int k x) (hv : ∀ w, S w → GmAt k f w v l) : RunOk P n ⟨d, .lookup T X Y false, ty, pos, af, g⟩ s S (f ((gget l x).getD a0)) := by
 intro w hw
 simp only [execOp, hX, hY, Sem.run_bind, run_lookG a0 x l false ht hk hz (hv w hw), Result.andThen_ok, Sem.run_pure]; rfl
end
section
variable {α : Type} {fm : α → Value}
variable {r : Option Nat} {P : Program} {n : Nat} {Q : Post} {s : Fm} {w : World} {ops : Array Oper} {rest : List Oper}
variable {d : Option Tmp} {ty : TypeId} {pos : String} {af : Array Edge}
theorem L_mclone {k : IntKind} {X : Operand} {ats : Array TypeId} {t f : Nat} {fn : Func} (hf : P.funcs[f]? = some fn) (hname : (fn.name == "runtime.NumGoroutine") = false) (hb : fn.body.isNone = true) (hn : Extern.findNext fn = none) (hfind : Extern.find fn = some Extern.MapsClone.clone)
  (b : Nat) (l : List (Int × α)) (hm : w.heap[b]? = some (gmObj k fm l)) (hX : s.ev n X = .iface t (.map (some b)))
  (h : ∀ nb w', New w w' nb (gmObj k fm l) → L r P n ops Q rest (s.put d (.iface t (.map (some nb)))) w') : L r P n ops Q (⟨d, .call ⟨.value (.func f), #[X], ats⟩, ty, pos, af, none⟩ :: rest) s w := by
 refine L_new (fun nb => .iface t (.map (some nb))) (gmObj k fm l) ?_ (by rfl) h
 have hrun := run_maps_clone_sl (P := P) w (r := b) (es := (gEnt k fm l 0).toArray) (clock := l.length) t hm
 have a : s.ev n (.func f) = .func (.func f) #[] #[] := rfl
 simp [execOp, resolve, invoke, a, hX, Deferred.ofValue, run_callFunc_extern hf hname hb hn hfind, hrun, Result.andThen]
 rfl
theorem L_unmap {X : Operand} {t xT kt et : TypeId} (v : Value) (ht : P.underlying t = some (.map kt et)) (hX : s.ev n X = .iface t v) (h : L r P n ops Q rest (s.put d v) w) : L r P n ops Q (⟨d, .typeAssert X xT t false, ty, pos, af, none⟩ :: rest) s w := by
 refine wC v w (by simp) ?_ h
 simp only [execOp, hX, Sem.run_bind, run_typeAssert_map_sl w t xT kt et v ht, Result.andThen_ok, Sem.run_pure]
end
section
variable {α : Type} {f : α → Value}
variable {P : Program} {n : Nat} {K : Fm → Prop} {s : Fm} {w : World} {ops : Array Oper} {rest : List Oper}
variable {d : Option Tmp} {ty : TypeId} {pos : String} {af : Array Edge}
theorem wV {T kt et : TypeId} {X Y : Operand} {k : IntKind} {v : Value} (a0 : α) (x : Int) (l : List (Int × α)) (ht : P.underlying T = some (.map kt et)) (hk : P.underlying kt = some (.int k)) (hz : (P.info? et).map (·.zero) = some (some (f a0)))
  (hv : GmAt k f w v l) (hX : s.ev n X = v) (hY : s.ev n Y = .int k x)
  (h : Lq P n ops w K rest (s.put d (.tuple #[f ((gget l x).getD a0), .bool (gget l x).isSome]))) : Lq P n ops w K (⟨d, .lookup T X Y true, ty, pos, af, none⟩ :: rest) s :=
 vU _ (fun w' hw' => R_glook (S := fun w2 => Below w.heap.size w w2) a0 x l ht hk hz hX hY (fun w2 h2 => hv.below h2) w' hw') h
end
def PtAt (v : Value) (cs : List Value) (A : World) : Prop := ∃ g off, v = .pointer (some ⟨g, off, none⟩) ∧ ∀ j u, cs[j]? = some u → A.cell? ⟨g, off + j, none⟩ = some u
end Go.FK
end

/- === FKai === -/
section
/- FKai: a call walked in place; an iterator that hands its yield on to another one. My own text. -/
namespace Go.FK
open Go Go.RowKit
section
variable {r : Option Nat} {P : Program} {n : Nat} {Q : Post} {s : Fm} {w : World} {ops : Array Oper} {rest : List Oper}
variable {d : Option Tmp} {ty : TypeId} {pos : String} {af : Array Edge}
theorem L_inline {op : Op} (f : FuncId) (args : List Value) (hrun : (execOp (s.ev n) ⟨d, op, ty, pos, af, none⟩).run P w = .ok (.enter f args.toArray) w) (hd : notDefer op = true)
  (hc : Calls P f args.toArray w (Ret fun v w' => L r P n ops Q rest (s.put d v) w')) : L r P n ops Q (⟨d, op, ty, pos, af, none⟩ :: rest) s w :=
 L_call f args hrun hd hc (fun _ _ h => h)
end
def encVal (v : Value) : List Value := [v]
end Go.FK
end

/- === Wcb1 === -/
section
/- Walks, written by my program walk.py out of the specification cb1.py: each theorem says what one function returns and that it leaves memory as it was. -/
namespace Go.Proofs.YtddnhlobnembaaaGreatDoor
open Go Go.RowKit Go.FK _root_.Go.Proofs.Tryz
set_option maxHeartbeats 4000000
set_option maxRecDepth 100000
theorem wM : Elem Tryz.prog 22 26 3 12 := ⟨underlying22, zk, rfl⟩
theorem c_point (r : Int) (w : World) :
  Calls Tryz.prog 95 #[(I3 r)] w (Ret fun v w' => v = (.bool (ptB r)) ∧ Below w.heap.size w w') := by
 refine wO 9 func95 rfl ?_
 have a := Below.refl w.heap.size w
 refine wR (zK (nR (zJ (zGe .i32 r 0 ?_ ?_))))
 ·intro e
  refine zJ (zw (zJ (zw (zLe .i32 r 1114111 ?_ ?_))))
  ·intro c
   exact xS (zK (nQ (yA (yK [(.bool true)] ⟨eb (by exact (ptB_y zo zo).symm), a⟩))))
  intro b
  exact xS (zK (nQ (yA (yK [(.bool false)] ⟨eb (by exact (ptB_n zo).symm), a⟩))))
 intro d
 exact zJ (zs (zs (xY (zK (nQ (yA (yK [(.bool false)] ⟨eb (by exact (ptB_n zo).symm), a⟩)))))))
theorem c_may (xa : Int) (xo : Int) (xs : Int) (w : World) :
  Calls Tryz.prog 61 #[(Value.agg #[(I3 xa), (I3 xo), (U8 xs)])] w (Ret fun v w' => v = (I6 (mayE (xa, xo, xs))) ∧ Below w.heap.size w w') := by
 refine wO 30 func61 rfl ?_
 have b := Below.refl w.heap.size w
 refine wR (zN [(I3 xa), (I3 xo), (U8 xs)] 26 ?_)
 intro f t c
 have g := c.ge b.size
 have a := c.here
 refine zK (nW (wR (zFO 0 a rfl (zc (c_point xa _ ) ?_))))
 rintro _ r ⟨rfl, d⟩
 refine yN (ptB xa) ?_ ?_
 ·intro q
  have a := zB a d
  refine qW true (zJ (zw (zr (pt f 1) (zw (zO 1 a rfl (zw (zc (c_point xo _ ) ?_)))))))
  rintro _ s ⟨rfl, e⟩
  refine yN (ptB xo) ?_ ?_
  ·intro l
   have a := zB a e
   refine zw (qW true (xY (zJ (zw (zr (pt f 0) (zw (zO 0 a rfl (zw (zr (pt f 1) (zw (zO 1 a rfl (zw (qM .i32 xa xo ?_ ?_)))))))))))))
   ·intro i
    have b := ((b.tr c.below).tr d).tr e
    exact xY (zJ (zs (zs (zs (zs (zs (zs (zs (zs (xS (nQ (zT (wR (zK (nQ (yA (zI (yK [(I6 80)] ⟨e6 (by exact (mayE_n (may_3 za)).symm), b⟩))))))))))))))))))
   intro m
   refine xY (zJ (zw (zr (pt f 2) (zw (zO 2 a rfl (zw (zNe .u8 xs 1 ?_ ?_)))))))
   ·intro p
    refine zw (zJ (zw (zr (pt f 2) (zw (zO 2 a rfl (zw (zNe .u8 xs 2 ?_ ?_)))))))
    ·intro k
     have b := ((b.tr c.below).tr d).tr e
     exact zw (xS (xY (nQ (zT (wR (zK (nQ (yA (zI (yK [(I6 80)] ⟨e6 (by exact (mayE_n (may_4 za za)).symm), b⟩))))))))))
    intro o
    have b := ((b.tr c.below).tr d).tr e
    exact zw (xS (xY (nQ (zF (zW (zD (wR (zK (nQ (yA (yK [(I6 0)] ⟨e6 (by exact (mayE_y (may_y za za za (by first | exact .inl za | exact .inr za))).symm), b⟩)))))))))))
   intro h
   have b := ((b.tr c.below).tr d).tr e
   exact zw (zJ (zs (zs (zs (zw (xY (xY (nQ (zF (zW (zD (wR (zK (nQ (yA (yK [(I6 0)] ⟨e6 (by exact (mayE_y (may_y za za za (by first | exact .inl za | exact .inr za))).symm), b⟩))))))))))))))))
  intro j
  have b := ((b.tr c.below).tr d).tr e
  exact zw (qW false (xY (zJ (zs (zs (zs (zs (zs (xS (zJ (zs (zs (zs (zs (zs (zs (zs (zs (xS (nQ (zT (wR (zK (nQ (yA (zI (yK [(I6 80)] ⟨e6 (by exact (mayE_n (may_2 za)).symm), b⟩)))))))))))))))))))))))))))
 intro n
 have b := (b.tr c.below).tr d
 exact qW false (zJ (zs (zs (zs (zs (xS (zJ (zs (zs (zs (zs (zs (xS (zJ (zs (zs (zs (zs (zs (zs (zs (zs (xS (nQ (zT (wR (zK (nQ (yA (zI (yK [(I6 80)] ⟨e6 (by exact (mayE_n (may_1 za)).symm), b⟩)))))))))))))))))))))))))))))))
theorem c_asked (r : Int) (w : World) :
  Calls Tryz.prog 57 #[(I3 r)] w (Ret fun v w' => v = (I3 (askB r)) ∧ Below w.heap.size w w') := by
 refine wO 7 func57 rfl ?_
 have a := Below.refl w.heap.size w
 refine wR (zK (nW (wR (zJ (zc (c_point r _ ) ?_)))))
 rintro _ c ⟨rfl, b⟩
 refine yN (ptB r) ?_ ?_
 ·intro d
  have a := a.tr b
  exact qW true (nQ (zF (zW (zD (wR (zJ (zK (nQ (yA (yK [(I3 r)] ⟨e3 (by exact (ask_y za).symm), a⟩))))))))))
 intro e
 have a := a.tr b
 exact qW false (nQ (zT (wR (zK (nQ (yA (zI (yK [(I3 65533)] ⟨e3 (by exact (ask_n za).symm), a⟩))))))))
theorem c_there (a : Nat) (m_rs : Nat) (rs : List (Int × (Int × Int × Int))) (b : Value) (ts : List (Int × Int)) (w : World) (c : w.heap[a]? = some (.cells [(.map (some m_rs)), b].toArray 69 (0, 0))) (d : GmAt .i32 vBrk w (.map (some m_rs)) rs) (e : GmAt .i32 vI32 w b ts) :
  Calls Tryz.prog 51 #[(pt a 0)] w (Ret fun v w' => v = (.bool true) ∧ Below w.heap.size w w') := by
 refine wO 12 func51 rfl ?_
 have f := Below.refl w.heap.size w
 exact wR (zK (nR (zJ (zr (.bool true) (zJ (zw (zJ (zw (zr (pt a 0) (zw (zr (pt a 0) (zw (zO 0 c rfl (zw (zr (.bool true) (xS (zK (nQ (yA (yK [(.bool true)] ⟨rfl, f⟩))))))))))))))))))))
theorem c_lone (q : Nat) (m_rs : Nat) (rs : List (Int × (Int × Int × Int))) (s : Value) (ts : List (Int × Int)) (xa : Int) (xo : Int) (xs : Int) (w : World) (d : w.heap[q]? = some (.cells [(.map (some m_rs)), s].toArray 69 (0, 0))) (b : GmAt .i32 vBrk w (.map (some m_rs)) rs) (ad : GmAt .i32 vI32 w s ts) :
  Calls Tryz.prog 30 #[(pt q 0), (Value.agg #[(I3 xa), (I3 xo), (U8 xs)])] w (Ret fun v w' => v = (.bool (loneM rs (xa, xo, xs))) ∧ Below w.heap.size w w') := by
 refine wO 33 func30 rfl ?_
 have e := Below.refl w.heap.size w
 refine wR (zN [(I3 xa), (I3 xo), (U8 xs)] 26 ?_)
 intro u w2 p
 have ac := p.ge e.size
 have a := p.here
 refine zK (nW (xD 11 13 zk zk zk ?_))
 intro w4 r
 refine ⟨fun w => (w.heap[q]? = some (.cells [(.map (some m_rs)), s].toArray 69 (0, 0))) ∧ (w.heap[u]? = some (.cells [(I3 xa), (I3 xo), (U8 xs)].toArray 26 (0, 0))) ∧ (GmAt .i32 vBrk w (.map (some m_rs)) rs), ?_⟩
 have d := zB (zB d p.below) r
 have a := zB a r
 have b := (b.below p.below).below r
 refine mp 0 rfl (pt q 0) (.inr ⟨d, a, b⟩) zg (hq := (zA zG)) (mp 1 rfl (pt q 0) (.inr ⟨d, a, b⟩) zg (hq := (zA zG)) (mp 2 rfl (pt q 0) (.inr ⟨d, a, b⟩) zg (hq := (zA zG)) (mt 3 [3, 6, 7, 8, 9, 11, 12] rfl (.map (some m_rs)) ⟨d, a, b⟩ (yQ q 0 (.map (some m_rs)) zk zf (fun w2 h2 => zQ h2.1 rfl)) (hq := (zA zG)) (mp 4 rfl (pt u 1) (.inr ⟨d, a, b⟩) zg (hq := (zA zG)) (mt 5 [5, 6, 7, 8, 9, 11, 12] rfl (I3 xo) ⟨d, a, b⟩ (yQ u 1 (I3 xo) zk zf (fun w2 h2 => zQ h2.2.1 rfl)) (hq := (zA zG)) (mt 6 [6, 7, 8, 9, 11, 12] rfl (.tuple #[(Value.agg #[(I3 ((lookB rs xo).1)), (I3 ((lookB rs xo).2.1)), (U8 ((lookB rs xo).2.2))]), (.bool ((gget rs xo).isSome))]) ⟨d, a, b⟩ (R_glook (k := .i32) (f := vBrk) (0, 0, 0) xo rs underlying66 underlying21 zk zk zk (fun w2 h2 => h2.2.2)) (hq := (zA zG)) (mp 7 rfl (.tuple #[(Value.agg #[(I3 ((lookB rs xo).1)), (I3 ((lookB rs xo).2.1)), (U8 ((lookB rs xo).2.2))]), (.bool ((gget rs xo).isSome))]) (.inr ⟨d, a, b⟩) zg (hq := (zA zG)) (mp 8 rfl (Value.agg #[(I3 ((lookB rs xo).1)), (I3 ((lookB rs xo).2.1)), (U8 ((lookB rs xo).2.2))]) (.inr ⟨d, a, b⟩) zg (hq := (zA zG)) ?_))))))))
 refine wG 9 10 zk ?_ ?_
 ·skip
  refine yR 9 rfl ?_ rfl
  refine zr (.bool ((gget rs xo).isSome)) (yN ((gget rs xo).isSome) ?_ ?_)
  ·intro h6
   refine zS ?_
   refine ⟨rfl, .inr ⟨d, a, b⟩, yH 10 zk (yR 10 rfl ?_ rfl)⟩
   refine zN [(I3 0), (I3 0), (U8 0)] 26 ?_
   intro b7 w8 m
   have i := yS (yE a) m
   have e := (e.tr p.below).tr r
   have h := m.ge e.size
   have c := m.here
   refine zS ?_
   have d := zB d m.below
   have a := zB a m.below
   have b := b.below m.below
   refine ⟨rfl, .inr ⟨d, a, b⟩, yH 11 zk (yR 11 rfl ?_ rfl)⟩
   refine wE [(I3 ((lookB rs xo).1)), (I3 ((lookB rs xo).2.1)), (U8 ((lookB rs xo).2.2))] c ?_
   intro a1 n
   have c := n.here
   refine zS ?_
   refine ⟨rfl, .inl zk, ?_⟩
   have a := zH a n i
   refine mp 12 rfl (.bool true) (.inl zk) zg (hq := (zA zG)) (yT zk (zD (wR (zJ (qW true (zJ (zw (zr (pt b7 1) (zw (zO 1 c rfl (zw (zr (pt u 0) (zw (zO 0 a rfl (zw (zNe .i32 ((lookB rs xo).2.1) xa ?_ ?_))))))))))))))))
   ·intro ah
    have e := (e.tr m.below).trans (n.below h)
    exact xY (zJ (zs (zs (zs (zs (zs (xS (zK (nQ (yA (yK [(.bool true)] ⟨eb (by exact (lone_2 za).symm), e⟩)))))))))))
   intro ar
   refine xY (zJ (zw (zr (pt b7 2) (zw (zO 2 c rfl (zw (zr (pt u 2) (zw (zO 2 a rfl (zw (qM .u8 ((lookB rs xo).2.2) xs ?_ ?_)))))))))))
   ·intro a2
    have e := (e.tr m.below).trans (n.below h)
    exact xY (zK (nQ (yA (yK [(.bool true)] ⟨eb (by exact (lone_3 za).symm), e⟩))))
   intro ao
   have e := (e.tr m.below).trans (n.below h)
   exact xY (zK (nQ (yA (yK [(.bool false)] ⟨eb (by exact (lone_n za za za).symm), e⟩))))
  intro az
  refine zS ?_
  refine ⟨rfl, .inr ⟨d, a, b⟩, yH 10 zk (yR 10 rfl ?_ rfl)⟩
  refine zN [(I3 0), (I3 0), (U8 0)] 26 ?_
  intro ae ag l
  have e := (e.tr p.below).tr r
  have h := l.ge e.size
  have c := l.here
  refine zS ?_
  have d := zB d l.below
  have a := zB a l.below
  have b := b.below l.below
  refine ⟨rfl, .inr ⟨d, a, b⟩, yH 11 zk (yR 11 rfl ?_ rfl)⟩
  refine wE [(I3 ((lookB rs xo).1)), (I3 ((lookB rs xo).2.1)), (U8 ((lookB rs xo).2.2))] c ?_
  intro ap z
  refine zS ?_
  refine ⟨rfl, .inl zk, ?_⟩
  have e := (e.tr l.below).trans (z.below h)
  exact mp 12 rfl (.bool false) (.inl zk) zg (hq := (zA zG)) (yT zk (zD (wR (zJ (qW false (zJ (zs (zs (zs (zs (zs (xS (zJ (zs (zs (zs (zs (zs (xS (zK (nQ (yA (yK [(.bool true)] ⟨eb (by exact (lone_1 za).symm), e⟩)))))))))))))))))))))))
 skip
 refine yR 10 rfl ?_ rfl
 refine zN [(I3 0), (I3 0), (U8 0)] 26 ?_
 intro t ay g
 have i := yS (yE a) g
 have e := (e.tr p.below).tr r
 have h := g.ge e.size
 have c := g.here
 refine zS ?_
 have d := zB d g.below
 have a := zB a g.below
 have b := b.below g.below
 refine ⟨rfl, .inr ⟨d, a, b⟩, wG 9 11 zk ?_ ?_⟩
 ·skip
  refine yR 9 rfl ?_ rfl
  refine zr (.bool ((gget rs xo).isSome)) (yN ((gget rs xo).isSome) ?_ ?_)
  ·intro a3
   refine zS ?_
   refine ⟨rfl, .inr ⟨d, a, b⟩, yH 11 zk (yR 11 rfl ?_ rfl)⟩
   refine wE [(I3 ((lookB rs xo).1)), (I3 ((lookB rs xo).2.1)), (U8 ((lookB rs xo).2.2))] c ?_
   intro aq o
   have c := o.here
   refine zS ?_
   refine ⟨rfl, .inl zk, ?_⟩
   have a := zH a o i
   refine mp 12 rfl (.bool true) (.inl zk) zg (hq := (zA zG)) (yT zk (zD (wR (zJ (qW true (zJ (zw (zr (pt t 1) (zw (zO 1 c rfl (zw (zr (pt u 0) (zw (zO 0 a rfl (zw (zNe .i32 ((lookB rs xo).2.1) xa ?_ ?_))))))))))))))))
   ·intro av
    have e := (e.tr g.below).trans (o.below h)
    exact xY (zJ (zs (zs (zs (zs (zs (xS (zK (nQ (yA (yK [(.bool true)] ⟨eb (by exact (lone_2 za).symm), e⟩)))))))))))
   intro au
   refine xY (zJ (zw (zr (pt t 2) (zw (zO 2 c rfl (zw (zr (pt u 2) (zw (zO 2 a rfl (zw (qM .u8 ((lookB rs xo).2.2) xs ?_ ?_)))))))))))
   ·intro al
    have e := (e.tr g.below).trans (o.below h)
    exact xY (zK (nQ (yA (yK [(.bool true)] ⟨eb (by exact (lone_3 za).symm), e⟩))))
   intro aw
   have e := (e.tr g.below).trans (o.below h)
   exact xY (zK (nQ (yA (yK [(.bool false)] ⟨eb (by exact (lone_n za za za).symm), e⟩))))
  intro a4
  refine zS ?_
  refine ⟨rfl, .inr ⟨d, a, b⟩, yH 11 zk (yR 11 rfl ?_ rfl)⟩
  refine wE [(I3 ((lookB rs xo).1)), (I3 ((lookB rs xo).2.1)), (U8 ((lookB rs xo).2.2))] c ?_
  intro ak y
  refine zS ?_
  refine ⟨rfl, .inl zk, ?_⟩
  have e := (e.tr g.below).trans (y.below h)
  exact mp 12 rfl (.bool false) (.inl zk) zg (hq := (zA zG)) (yT zk (zD (wR (zJ (qW false (zJ (zs (zs (zs (zs (zs (xS (zJ (zs (zs (zs (zs (zs (xS (zK (nQ (yA (yK [(.bool true)] ⟨eb (by exact (lone_1 za).symm), e⟩)))))))))))))))))))))))
 skip
 refine yR 11 rfl ?_ rfl
 refine wE [(I3 ((lookB rs xo).1)), (I3 ((lookB rs xo).2.1)), (U8 ((lookB rs xo).2.2))] c ?_
 intro ai j
 have c := j.here
 refine zS ?_
 refine ⟨rfl, .inl zk, yH 9 zk (yR 9 rfl ?_ rfl)⟩
 refine zr (.bool ((gget rs xo).isSome)) (yN ((gget rs xo).isSome) ?_ ?_)
 ·intro aj
  refine zS ?_
  refine ⟨rfl, .inl zk, ?_⟩
  have a := zH a j i
  refine mp 12 rfl (.bool true) (.inl zk) zg (hq := (zA zG)) (yT zk (zD (wR (zJ (qW true (zJ (zw (zr (pt t 1) (zw (zO 1 c rfl (zw (zr (pt u 0) (zw (zO 0 a rfl (zw (zNe .i32 ((lookB rs xo).2.1) xa ?_ ?_))))))))))))))))
  ·intro a0
   have e := (e.tr g.below).trans (j.below h)
   exact xY (zJ (zs (zs (zs (zs (zs (xS (zK (nQ (yA (yK [(.bool true)] ⟨eb (by exact (lone_2 za).symm), e⟩)))))))))))
  intro ax
  refine xY (zJ (zw (zr (pt t 2) (zw (zO 2 c rfl (zw (zr (pt u 2) (zw (zO 2 a rfl (zw (qM .u8 ((lookB rs xo).2.2) xs ?_ ?_)))))))))))
  ·intro am
   have e := (e.tr g.below).trans (j.below h)
   exact xY (zK (nQ (yA (yK [(.bool true)] ⟨eb (by exact (lone_3 za).symm), e⟩))))
  intro af
  have e := (e.tr g.below).trans (j.below h)
  exact xY (zK (nQ (yA (yK [(.bool false)] ⟨eb (by exact (lone_n za za za).symm), e⟩))))
 intro an
 refine zS ?_
 refine ⟨rfl, .inl zk, ?_⟩
 have e := (e.tr g.below).trans (j.below h)
 exact mp 12 rfl (.bool false) (.inl zk) zg (hq := (zA zG)) (yT zk (zD (wR (zJ (qW false (zJ (zs (zs (zs (zs (zs (xS (zJ (zs (zs (zs (zs (zs (xS (zK (nQ (yA (yK [(.bool true)] ⟨eb (by exact (lone_1 za).symm), e⟩)))))))))))))))))))))))
theorem c_Bracket (n : Nat) (m_rs : Nat) (rs : List (Int × (Int × Int × Int))) (p : Value) (ts : List (Int × Int)) (r : Int) (w : World) (c : w.heap[n]? = some (.cells [(.map (some m_rs)), p].toArray 69 (0, 0))) (a : GmAt .i32 vBrk w (.map (some m_rs)) rs) (af : GmAt .i32 vI32 w p ts) :
  Calls Tryz.prog 23 #[(pt n 0), (I3 r)] w (Ret fun v w' => v = (.tuple #[(I3 ((brkF rs r).1)), (U8 ((brkF rs r).2))]) ∧ Below w.heap.size w w') := by
 refine wO 27 func23 rfl ?_
 have d := Below.refl w.heap.size w
 refine wR (zK (zK (nW (wR (zJ (zc (c_there n m_rs rs p ts _ c a af) ?_))))))
 rintro _ w1 ⟨rfl, q⟩
 refine qW true (nQ (zF (zW (zD (yC (xD 11 13 zk zk zk ?_))))))
 intro w4 s
 refine ⟨fun w => (w.heap[n]? = some (.cells [(.map (some m_rs)), p].toArray 69 (0, 0))) ∧ (GmAt .i32 vBrk w (.map (some m_rs)) rs), ?_⟩
 have c := zB (zB c q) s
 have a := (a.below q).below s
 refine mp 0 rfl (pt n 0) (.inr ⟨c, a⟩) zg (hq := (zA zG)) (mp 1 rfl (pt n 0) (.inr ⟨c, a⟩) zg (hq := (zA zG)) (mp 2 rfl (pt n 0) (.inr ⟨c, a⟩) zg (hq := (zA zG)) (mt 3 [3, 6, 7, 8, 9, 11, 12] rfl (.map (some m_rs)) ⟨c, a⟩ (yQ n 0 (.map (some m_rs)) zk zf (fun w2 h2 => zQ h2.1 rfl)) (hq := (zA zG)) (mp 4 rfl (I3 r) (.inr ⟨c, a⟩) zg (hq := (zA zG)) ?_))))
 refine wG 5 10 zk ?_ ?_
 ·skip
  refine yR 5 rfl ?_ rfl
  refine zc (c_asked r _ ) ?_
  rintro _ w6 ⟨rfl, y⟩
  refine zS ?_
  have c := zB c y
  have a := a.below y
  refine ⟨rfl, .inr ⟨c, a⟩, mt 6 [6, 7, 8, 9, 11, 12] rfl (.tuple #[(Value.agg #[(I3 ((lookB rs (askB r)).1)), (I3 ((lookB rs (askB r)).2.1)), (U8 ((lookB rs (askB r)).2.2))]), (.bool ((gget rs (askB r)).isSome))]) ⟨c, a⟩ (R_glook (k := .i32) (f := vBrk) (0, 0, 0) (askB r) rs underlying66 underlying21 zk zk zk (fun w2 h2 => h2.2)) (hq := (zA zG)) (mp 7 rfl (.tuple #[(Value.agg #[(I3 ((lookB rs (askB r)).1)), (I3 ((lookB rs (askB r)).2.1)), (U8 ((lookB rs (askB r)).2.2))]), (.bool ((gget rs (askB r)).isSome))]) (.inr ⟨c, a⟩) zg (hq := (zA zG)) (mp 8 rfl (Value.agg #[(I3 ((lookB rs (askB r)).1)), (I3 ((lookB rs (askB r)).2.1)), (U8 ((lookB rs (askB r)).2.2))]) (.inr ⟨c, a⟩) zg (hq := (zA zG)) ?_))⟩
  refine wG 9 10 zk ?_ ?_
  ·skip
   refine yR 9 rfl ?_ rfl
   refine zr (.bool ((gget rs (askB r)).isSome)) (yN ((gget rs (askB r)).isSome) ?_ ?_)
   ·intro h9
    refine zS ?_
    refine ⟨rfl, .inr ⟨c, a⟩, yH 10 zk (yR 10 rfl ?_ rfl)⟩
    refine zN [(I3 0), (I3 0), (U8 0)] 26 ?_
    intro z a5 o
    have d := ((d.tr q).tr s).tr y
    have e := o.ge d.size
    have b := o.here
    refine zS ?_
    have c := zB c o.below
    have a := a.below o.below
    refine ⟨rfl, .inr ⟨c, a⟩, yH 11 zk (yR 11 rfl ?_ rfl)⟩
    refine wE [(I3 ((lookB rs (askB r)).1)), (I3 ((lookB rs (askB r)).2.1)), (U8 ((lookB rs (askB r)).2.2))] b ?_
    intro ar aa
    have b := aa.here
    refine zS ?_
    refine ⟨rfl, .inl zk, mp 12 rfl (.bool true) (.inl zk) zg (hq := (zA zG)) (yT zk (zD (yC (wR (zJ (qW true (nQ (zF (zW (zD (yC (yP zk zk (yD (pt z 1) zf (zX z 1 (I3 ((lookB rs (askB r)).2.1)) zk zf (zQ b rfl) (yD (pt z 2) zf (zX z 2 (U8 ((lookB rs (askB r)).2.2)) zk zf (zQ b rfl) (xH (xH (yG ?_)))))))))))))))))))⟩
    intro au ae
    have d := ((d.tr o.below).trans (aa.below e)).tr ae
    exact zD (yA (yK [(I3 ((lookB rs (askB r)).2.1)), (U8 ((lookB rs (askB r)).2.2))] ⟨xQ (e3 (by (rw [brk_y za]; done))) (eu (by (rw [brk_y za]; done))), d⟩))
   intro ao
   refine zS ?_
   refine ⟨rfl, .inr ⟨c, a⟩, yH 10 zk (yR 10 rfl ?_ rfl)⟩
   refine zN [(I3 0), (I3 0), (U8 0)] 26 ?_
   intro ax bc l
   have d := ((d.tr q).tr s).tr y
   have e := l.ge d.size
   have b := l.here
   refine zS ?_
   have c := zB c l.below
   have a := a.below l.below
   refine ⟨rfl, .inr ⟨c, a⟩, yH 11 zk (yR 11 rfl ?_ rfl)⟩
   refine wE [(I3 ((lookB rs (askB r)).1)), (I3 ((lookB rs (askB r)).2.1)), (U8 ((lookB rs (askB r)).2.2))] b ?_
   intro a4 ak
   refine zS ?_
   refine ⟨rfl, .inl zk, ?_⟩
   have d := (d.tr l.below).trans (ak.below e)
   exact mp 12 rfl (.bool false) (.inl zk) zg (hq := (zA zG)) (yT zk (zD (yC (wR (zJ (qW false (nQ (zT (wR (zK (zK (nQ (yA (zI (yK [(I3 0), (U8 0)] ⟨xQ (e3 (by (rw [brk_n za]; done))) (eu (by (rw [brk_n za]; done))), d⟩)))))))))))))))
  skip
  refine yR 10 rfl ?_ rfl
  refine zN [(I3 0), (I3 0), (U8 0)] 26 ?_
  intro m be h
  have d := ((d.tr q).tr s).tr y
  have e := h.ge d.size
  have b := h.here
  refine zS ?_
  have c := zB c h.below
  have a := a.below h.below
  refine ⟨rfl, .inr ⟨c, a⟩, wG 9 11 zk ?_ ?_⟩
  ·skip
   refine yR 9 rfl ?_ rfl
   refine zr (.bool ((gget rs (askB r)).isSome)) (yN ((gget rs (askB r)).isSome) ?_ ?_)
   ·intro a9
    refine zS ?_
    refine ⟨rfl, .inr ⟨c, a⟩, yH 11 zk (yR 11 rfl ?_ rfl)⟩
    refine wE [(I3 ((lookB rs (askB r)).1)), (I3 ((lookB rs (askB r)).2.1)), (U8 ((lookB rs (askB r)).2.2))] b ?_
    intro aw ac
    have b := ac.here
    refine zS ?_
    refine ⟨rfl, .inl zk, mp 12 rfl (.bool true) (.inl zk) zg (hq := (zA zG)) (yT zk (zD (yC (wR (zJ (qW true (nQ (zF (zW (zD (yC (yP zk zk (yD (pt m 1) zf (zX m 1 (I3 ((lookB rs (askB r)).2.1)) zk zf (zQ b rfl) (yD (pt m 2) zf (zX m 2 (U8 ((lookB rs (askB r)).2.2)) zk zf (zQ b rfl) (xH (xH (yG ?_)))))))))))))))))))⟩
    intro a0 ad
    have d := ((d.tr h.below).trans (ac.below e)).tr ad
    exact zD (yA (yK [(I3 ((lookB rs (askB r)).2.1)), (U8 ((lookB rs (askB r)).2.2))] ⟨xQ (e3 (by (rw [brk_y za]; done))) (eu (by (rw [brk_y za]; done))), d⟩))
   intro a2
   refine zS ?_
   refine ⟨rfl, .inr ⟨c, a⟩, yH 11 zk (yR 11 rfl ?_ rfl)⟩
   refine wE [(I3 ((lookB rs (askB r)).1)), (I3 ((lookB rs (askB r)).2.1)), (U8 ((lookB rs (askB r)).2.2))] b ?_
   intro ap ai
   refine zS ?_
   refine ⟨rfl, .inl zk, ?_⟩
   have d := (d.tr h.below).trans (ai.below e)
   exact mp 12 rfl (.bool false) (.inl zk) zg (hq := (zA zG)) (yT zk (zD (yC (wR (zJ (qW false (nQ (zT (wR (zK (zK (nQ (yA (zI (yK [(I3 0), (U8 0)] ⟨xQ (e3 (by (rw [brk_n za]; done))) (eu (by (rw [brk_n za]; done))), d⟩)))))))))))))))
  skip
  refine yR 11 rfl ?_ rfl
  refine wE [(I3 ((lookB rs (askB r)).1)), (I3 ((lookB rs (askB r)).2.1)), (U8 ((lookB rs (askB r)).2.2))] b ?_
  intro an t
  have b := t.here
  refine zS ?_
  refine ⟨rfl, .inl zk, yH 9 zk (yR 9 rfl ?_ rfl)⟩
  refine zr (.bool ((gget rs (askB r)).isSome)) (yN ((gget rs (askB r)).isSome) ?_ ?_)
  ·intro ay
   refine zS ?_
   refine ⟨rfl, .inl zk, mp 12 rfl (.bool true) (.inl zk) zg (hq := (zA zG)) (yT zk (zD (yC (wR (zJ (qW true (nQ (zF (zW (zD (yC (yP zk zk (yD (pt m 1) zf (zX m 1 (I3 ((lookB rs (askB r)).2.1)) zk zf (zQ b rfl) (yD (pt m 2) zf (zX m 2 (U8 ((lookB rs (askB r)).2.2)) zk zf (zQ b rfl) (xH (xH (yG ?_)))))))))))))))))))⟩
   intro a7 ah
   have d := ((d.tr h.below).trans (t.below e)).tr ah
   exact zD (yA (yK [(I3 ((lookB rs (askB r)).2.1)), (U8 ((lookB rs (askB r)).2.2))] ⟨xQ (e3 (by (rw [brk_y za]; done))) (eu (by (rw [brk_y za]; done))), d⟩))
  intro a3
  refine zS ?_
  refine ⟨rfl, .inl zk, ?_⟩
  have d := (d.tr h.below).trans (t.below e)
  exact mp 12 rfl (.bool false) (.inl zk) zg (hq := (zA zG)) (yT zk (zD (yC (wR (zJ (qW false (nQ (zT (wR (zK (zK (nQ (yA (zI (yK [(I3 0), (U8 0)] ⟨xQ (e3 (by (rw [brk_n za]; done))) (eu (by (rw [brk_n za]; done))), d⟩)))))))))))))))
 skip
 refine yR 10 rfl ?_ rfl
 refine zN [(I3 0), (I3 0), (U8 0)] 26 ?_
 intro j am i
 have d := (d.tr q).tr s
 have e := i.ge d.size
 have b := i.here
 refine zS ?_
 have c := zB c i.below
 have a := a.below i.below
 refine ⟨rfl, .inr ⟨c, a⟩, yH 5 zk (yR 5 rfl ?_ rfl)⟩
 refine zc (c_asked r _ ) ?_
 rintro _ az ⟨rfl, g⟩
 refine zS ?_
 have c := zB c g
 have a := a.below g
 refine ⟨rfl, .inr ⟨c, a⟩, mt 6 [6, 7, 8, 9, 11, 12] rfl (.tuple #[(Value.agg #[(I3 ((lookB rs (askB r)).1)), (I3 ((lookB rs (askB r)).2.1)), (U8 ((lookB rs (askB r)).2.2))]), (.bool ((gget rs (askB r)).isSome))]) ⟨c, a⟩ (R_glook (k := .i32) (f := vBrk) (0, 0, 0) (askB r) rs underlying66 underlying21 zk zk zk (fun w2 h2 => h2.2)) (hq := (zA zG)) (mp 7 rfl (.tuple #[(Value.agg #[(I3 ((lookB rs (askB r)).1)), (I3 ((lookB rs (askB r)).2.1)), (U8 ((lookB rs (askB r)).2.2))]), (.bool ((gget rs (askB r)).isSome))]) (.inr ⟨c, a⟩) zg (hq := (zA zG)) (mp 8 rfl (Value.agg #[(I3 ((lookB rs (askB r)).1)), (I3 ((lookB rs (askB r)).2.1)), (U8 ((lookB rs (askB r)).2.2))]) (.inr ⟨c, a⟩) zg (hq := (zA zG)) ?_))⟩
 refine wG 9 11 zk ?_ ?_
 ·skip
  refine yR 9 rfl ?_ rfl
  refine zr (.bool ((gget rs (askB r)).isSome)) (yN ((gget rs (askB r)).isSome) ?_ ?_)
  ·intro aq
   refine zS ?_
   refine ⟨rfl, .inr ⟨c, a⟩, yH 11 zk (yR 11 rfl ?_ rfl)⟩
   have b := zB b g
   refine wE [(I3 ((lookB rs (askB r)).1)), (I3 ((lookB rs (askB r)).2.1)), (U8 ((lookB rs (askB r)).2.2))] b ?_
   intro a6 ab
   have b := ab.here
   refine zS ?_
   refine ⟨rfl, .inl zk, mp 12 rfl (.bool true) (.inl zk) zg (hq := (zA zG)) (yT zk (zD (yC (wR (zJ (qW true (nQ (zF (zW (zD (yC (yP zk zk (yD (pt j 1) zf (zX j 1 (I3 ((lookB rs (askB r)).2.1)) zk zf (zQ b rfl) (yD (pt j 2) zf (zX j 2 (U8 ((lookB rs (askB r)).2.2)) zk zf (zQ b rfl) (xH (xH (yG ?_)))))))))))))))))))⟩
   intro a8 al
   have d := (((d.tr i.below).tr g).trans (ab.below e)).tr al
   exact zD (yA (yK [(I3 ((lookB rs (askB r)).2.1)), (U8 ((lookB rs (askB r)).2.2))] ⟨xQ (e3 (by (rw [brk_y za]; done))) (eu (by (rw [brk_y za]; done))), d⟩))
  intro ba
  refine zS ?_
  refine ⟨rfl, .inr ⟨c, a⟩, yH 11 zk (yR 11 rfl ?_ rfl)⟩
  have b := zB b g
  refine wE [(I3 ((lookB rs (askB r)).1)), (I3 ((lookB rs (askB r)).2.1)), (U8 ((lookB rs (askB r)).2.2))] b ?_
  intro av aj
  refine zS ?_
  refine ⟨rfl, .inl zk, ?_⟩
  have d := ((d.tr i.below).tr g).trans (aj.below e)
  exact mp 12 rfl (.bool false) (.inl zk) zg (hq := (zA zG)) (yT zk (zD (yC (wR (zJ (qW false (nQ (zT (wR (zK (zK (nQ (yA (zI (yK [(I3 0), (U8 0)] ⟨xQ (e3 (by (rw [brk_n za]; done))) (eu (by (rw [brk_n za]; done))), d⟩)))))))))))))))
 skip
 refine yR 11 rfl ?_ rfl
 have b := zB b g
 refine wE [(I3 ((lookB rs (askB r)).1)), (I3 ((lookB rs (askB r)).2.1)), (U8 ((lookB rs (askB r)).2.2))] b ?_
 intro bb u
 have b := u.here
 refine zS ?_
 refine ⟨rfl, .inl zk, yH 9 zk (yR 9 rfl ?_ rfl)⟩
 refine zr (.bool ((gget rs (askB r)).isSome)) (yN ((gget rs (askB r)).isSome) ?_ ?_)
 ·intro a1
  refine zS ?_
  refine ⟨rfl, .inl zk, mp 12 rfl (.bool true) (.inl zk) zg (hq := (zA zG)) (yT zk (zD (yC (wR (zJ (qW true (nQ (zF (zW (zD (yC (yP zk zk (yD (pt j 1) zf (zX j 1 (I3 ((lookB rs (askB r)).2.1)) zk zf (zQ b rfl) (yD (pt j 2) zf (zX j 2 (U8 ((lookB rs (askB r)).2.2)) zk zf (zQ b rfl) (xH (xH (yG ?_)))))))))))))))))))⟩
  intro bf ag
  have d := (((d.tr i.below).tr g).trans (u.below e)).tr ag
  exact zD (yA (yK [(I3 ((lookB rs (askB r)).2.1)), (U8 ((lookB rs (askB r)).2.2))] ⟨xQ (e3 (by (rw [brk_y za]; done))) (eu (by (rw [brk_y za]; done))), d⟩))
 intro bd
 refine zS ?_
 refine ⟨rfl, .inl zk, ?_⟩
 have d := ((d.tr i.below).tr g).trans (u.below e)
 exact mp 12 rfl (.bool false) (.inl zk) zg (hq := (zA zG)) (yT zk (zD (yC (wR (zJ (qW false (nQ (zT (wR (zK (zK (nQ (yA (zI (yK [(I3 0), (U8 0)] ⟨xQ (e3 (by (rw [brk_n za]; done))) (eu (by (rw [brk_n za]; done))), d⟩)))))))))))))))
theorem c_Twin (d : Nat) (m_rs : Nat) (rs : List (Int × (Int × Int × Int))) (b : Value) (ts : List (Int × Int)) (r : Int) (w : World) (e : w.heap[d]? = some (.cells [(.map (some m_rs)), b].toArray 69 (0, 0))) (i : GmAt .i32 vBrk w (.map (some m_rs)) rs) (a : GmAt .i32 vI32 w b ts) :
  Calls Tryz.prog 25 #[(pt d 0), (I3 r)] w (Ret fun v w' => v = (I3 (twnF ts r)) ∧ Below w.heap.size w w') := by
 refine wO 25 func25 rfl ?_
 have h := Below.refl w.heap.size w
 refine wR (zK (nW (wR (zJ (zc (c_there d m_rs rs b ts _ e i a) ?_)))))
 rintro _ j ⟨rfl, c⟩
 refine qW true (nQ (zF (zW (zD (wR (zJ (zc (c_asked r _ ) ?_)))))))
 rintro _ n ⟨rfl, g⟩
 have e := zB (zB e c) g
 have a := (a.below c).below g
 refine zK (nW (wR (zJ (zr (pt d 0) (zFO 1 e rfl (zJ (L_glook (k := .i32) (f := vI32) 0 (askB r) ts underlying67 underlying21 zk a zk zk (zJ (zr (I3 ((gget ts (askB r)).getD 0)) (zr (.bool ((gget ts (askB r)).isSome)) (yN ((gget ts (askB r)).isSome) ?_ ?_)))))))))))
 ·intro m
  have h := (h.tr c).tr g
  exact zK (zK (nR (zJ (nQ (zT (wR (zJ (zK (nQ (yA (zI (yK [(I3 ((gget ts (askB r)).getD 0))] ⟨e3 (by (rw [twn_y za]; done)), h⟩))))))))))))
 intro l
 have h := (h.tr c).tr g
 exact zK (zK (nR (zJ (nQ (zF (zW (zD (wR (zJ (zK (nQ (yA (yK [(I3 (askB r))] ⟨e3 (by (rw [twn_n za]; done)), h⟩)))))))))))))
theorem c_Matches (h : Nat) (m_rs : Nat) (rs : List (Int × (Int × Int × Int))) (e : Value) (ts : List (Int × Int)) (o : Int) (c : Int) (w : World) (d : w.heap[h]? = some (.cells [(.map (some m_rs)), e].toArray 69 (0, 0))) (b : GmAt .i32 vBrk w (.map (some m_rs)) rs) (a : GmAt .i32 vI32 w e ts) :
  Calls Tryz.prog 26 #[(pt h 0), (I3 o), (I3 c)] w (Ret fun v w' => v = (.bool (mtcF rs ts o c)) ∧ Below w.heap.size w w') := by
 refine wO 41 func26 rfl ?_
 have j := Below.refl w.heap.size w
 refine wR (zK (nR (zJ (zr (.func (.func 23) #[(pt h 0)] #[]) (zK (nR (zJ (zJ (zc (c_Bracket h m_rs rs e ts o _ d b a) ?_)))))))))
 rintro _ t ⟨rfl, g⟩
 have d := zB d g
 have b := b.below g
 have a := a.below g
 refine zJ (zr (I3 ((brkF rs o).1)) (zr (U8 ((brkF rs o).2)) (zK (zK (nR (zJ (zJ (zc (c_Bracket h m_rs rs e ts c _ d b a) ?_))))))))
 rintro _ s ⟨rfl, i⟩
 refine zJ (zr (I3 ((brkF rs c).1)) (zr (U8 ((brkF rs c).2)) (zK (zK (nR (zJ (qM .u8 ((brkF rs o).2) 1 ?_ ?_)))))))
 ·intro r
  refine zJ (zw (zJ (zw (qM .u8 ((brkF rs c).2) 2 ?_ ?_))))
  ·intro u
   have d := zB d i
   have b := b.below i
   have a := a.below i
   refine xS (zJ (zw (zJ (zw (zJ (zw (zc (c_Twin h m_rs rs e ts ((brkF rs o).1) _ d b a) ?_)))))))
   rintro _ y ⟨rfl, f⟩
   have d := zB d f
   have b := b.below f
   have a := a.below f
   refine zw (zJ (zw (zJ (zw (zc (c_Twin h m_rs rs e ts c _ d b a) ?_)))))
   rintro _ q ⟨rfl, k⟩
   refine zw (qM .i32 (twnF ts ((brkF rs o).1)) (twnF ts c) ?_ ?_)
   ·intro n
    have j := (((j.tr g).tr i).tr f).tr k
    exact xS (zK (nQ (yA (yK [(.bool true)] ⟨eb (by (rw [mtc_3 za za]; first | exact (decide_eq_true za).symm | exact (decide_eq_false za).symm)), j⟩))))
   intro p
   have j := (((j.tr g).tr i).tr f).tr k
   exact xS (zK (nQ (yA (yK [(.bool false)] ⟨eb (by (rw [mtc_3 za za]; first | exact (decide_eq_true za).symm | exact (decide_eq_false za).symm)), j⟩))))
  intro l
  have j := (j.tr g).tr i
  exact xS (zJ (zs (zs (zs (zs (zs (zs (zs (xY (zK (nQ (yA (yK [(.bool false)] ⟨eb (by exact (mtc_2 za).symm), j⟩)))))))))))))
 intro m
 have j := (j.tr g).tr i
 exact zJ (zs (zs (xY (zJ (zs (zs (zs (zs (zs (zs (zs (xY (zK (nQ (yA (yK [(.bool false)] ⟨eb (by exact (mtc_1 za).symm), j⟩))))))))))))))))
end Go.Proofs.YtddnhlobnembaaaGreatDoor
end

/- === Wcb2 === -/
section
/- Walks, written by my program walk.py out of the specification cb2.py: each theorem says what one function returns and that it leaves memory as it was. -/
namespace Go.Proofs.YtddnhlobnembaaaGreatDoor
open Go Go.RowKit Go.FK _root_.Go.Proofs.Tryz
set_option maxHeartbeats 4000000
set_option maxRecDepth 100000
theorem c_add (i m_rs : Nat) (rs : List (Int × (Int × Int × Int))) (ag : Value) (xa : Int) (xo : Int) (xs : Int) (B_ : Nat) (w : World) (hs0 : B_ ≤ w.heap.size) (c : w.heap[i]? = some (.cells [(.map (some m_rs)), ag].toArray 69 (0, 0))) (a : w.heap[m_rs]? = some (gmObj .i32 vBrk rs)) (ax : B_ ≤ m_rs) :
  Calls Tryz.prog 28 #[(pt i 0), (Value.agg #[(I3 xa), (I3 xo), (U8 xs)])] w (Ret fun v w' => v = (I6 (addE rs (xa, xo, xs))) ∧ w'.heap[m_rs]? = some (gmObj .i32 vBrk (addM rs (xa, xo, xs))) ∧ Ch (fun k => k = m_rs) w w') := by
 refine wO 31 func28 rfl ?_
 have t := Below.refl B_ w
 have g : B_ ≤ (World.heap w).size := hs0
 have o := Ch.refl (fun k => k = m_rs) w
 have ah : (World.heap w).size ≤ m_rs ∨ (fun k => k = m_rs) m_rs := .inr rfl
 refine wR (zN [(I3 xa), (I3 xo), (U8 xs)] 26 ?_)
 intro b1 w2 ad
 have aw : B_ ≤ b1 := by rw [ad.num]; exact g
 have av : (World.heap w).size ≤ b1 ∨ (fun k => k = m_rs) b1 := .inl (by rw [ad.num]; exact o.size)
 have t := t.trans (ad.below.mono g)
 replace g := Nat.le_trans g (ad.below.size)
 have b := ad.here
 refine zK (nW (wR (zOW b (zc (c_may xa xo xs _ ) ?_))))
 replace o := o.trans2 (Ch.of_below ad.below) (fun _ h => h.elim)
 rintro _ w4 ⟨rfl, u⟩
 have t := t.trans (u.mono g)
 replace g := Nat.le_trans g (u.size)
 refine zK (nR (zJ (zNe .i64 (mayE (xa, xo, xs)) 0 ?_ ?_)))
 ·intro h7
  refine nQ (zT (wR (zJ (zK (nQ (yA (zI (yK [(I6 (mayE (xa, xo, xs)))] ?_))))))))
  have e0 : ((mayE (xa, xo, xs)) : Int) = (addE rs (xa, xo, xs)) := by exact (addE_1 za).symm
  have em : rs = (addM rs (xa, xo, xs)) := by exact (addM_1 za).symm
  have a := zB (zB a ad.below) u
  rw [em] at a
  replace o := o.trans2 (Ch.of_below u) (fun _ h => h.elim)
  exact ⟨e6 e0, a, o⟩
 intro h8
 refine nQ (zF (zW (zD (yC (yC (xD 11 13 zk zk zk ?_))))))
 intro w9 r
 have t := t.trans (r.mono g)
 replace g := Nat.le_trans g (r.size)
 refine ⟨fun w => (w.heap[i]? = some (.cells [(.map (some m_rs)), ag].toArray 69 (0, 0))) ∧ (w.heap[b1]? = some (.cells [(I3 xa), (I3 xo), (U8 xs)].toArray 26 (0, 0))) ∧ (w.heap[m_rs]? = some (gmObj .i32 vBrk rs)), ?_⟩
 have c := zB (zB (zB c ad.below) u) r
 have a := zB (zB (zB a ad.below) u) r
 have b := zB (zB b u) r
 refine mp 0 rfl (pt i 0) (.inr ⟨c, b, a⟩) zg (hq := (zA (zA zG))) (mp 1 rfl (pt i 0) (.inr ⟨c, b, a⟩) zg (hq := (zA (zA zG))) (mp 2 rfl (pt i 0) (.inr ⟨c, b, a⟩) zg (hq := (zA (zA zG))) (mt 3 [3, 6, 7, 8, 9, 11, 12] rfl (.map (some m_rs)) ⟨c, b, a⟩ (yQ i 0 (.map (some m_rs)) zk zf (fun w2 h2 => zQ h2.1 rfl)) (hq := (zA (zA zG))) (mp 4 rfl (pt b1 0) (.inr ⟨c, b, a⟩) zg (hq := (zA (zA zG))) (mt 5 [5, 6, 7, 8, 9, 11, 12] rfl (I3 xa) ⟨c, b, a⟩ (yQ b1 0 (I3 xa) zk zf (fun w2 h2 => zQ h2.2.1 rfl)) (hq := (zA (zA zG))) (mt 6 [6, 7, 8, 9, 11, 12] rfl (.tuple #[(Value.agg #[(I3 ((lookB rs xa).1)), (I3 ((lookB rs xa).2.1)), (U8 ((lookB rs xa).2.2))]), (.bool ((gget rs xa).isSome))]) ⟨c, b, a⟩ (R_glook (k := .i32) (f := vBrk) (0, 0, 0) xa rs underlying66 underlying21 zk zk zk (fun w2 h2 => GmAt.of h2.2.2)) (hq := (zA (zA zG))) (mp 7 rfl (.tuple #[(Value.agg #[(I3 ((lookB rs xa).1)), (I3 ((lookB rs xa).2.1)), (U8 ((lookB rs xa).2.2))]), (.bool ((gget rs xa).isSome))]) (.inr ⟨c, b, a⟩) zg (hq := (zA (zA zG))) (mp 8 rfl (Value.agg #[(I3 ((lookB rs xa).1)), (I3 ((lookB rs xa).2.1)), (U8 ((lookB rs xa).2.2))]) (.inr ⟨c, b, a⟩) zg (hq := (zA (zA zG))) ?_))))))))
 refine wG 9 10 zk ?_ ?_
 ·skip
  refine yR 9 rfl ?_ rfl
  refine zr (.bool ((gget rs xa).isSome)) (yN ((gget rs xa).isSome) ?_ ?_)
  ·intro a8
   refine zS ?_
   refine ⟨rfl, .inr ⟨c, b, a⟩, yH 10 zk (yR 10 rfl ?_ rfl)⟩
   refine zN [(I3 0), (I3 0), (U8 0)] 26 ?_
   intro aq a3 p
   have d := yS (yE a) p
   have af : B_ ≤ aq := by rw [p.num]; exact g
   replace o := (o.trans2 (Ch.of_below u) (fun _ h => h.elim)).trans2 (Ch.of_below r) (fun _ h => h.elim)
   have m : (World.heap w).size ≤ aq ∨ (fun k => k = m_rs) aq := .inl (by rw [p.num]; exact o.size)
   have t := t.trans (p.below.mono g)
   replace g := Nat.le_trans g (p.below.size)
   have q := p.here
   refine zS ?_
   have c := zB c p.below
   have a := zB a p.below
   have b := zB b p.below
   refine ⟨rfl, .inr ⟨c, b, a⟩, yH 11 zk (yR 11 rfl ?_ rfl)⟩
   refine wE [(I3 ((lookB rs xa).1)), (I3 ((lookB rs xa).2.1)), (U8 ((lookB rs xa).2.2))] q ?_
   intro a4 ap
   replace g := Nat.le_trans g (Nat.le_of_eq ap.size.symm)
   refine zS ?_
   refine ⟨rfl, .inl zk, mp 12 rfl (.bool true) (.inl zk) zg (hq := (zA (zA zG))) (yT zk (zD (wR (zJ (nQ (zT (wR (zK (nQ (yA (zI (yK [(I6 81)] ?_))))))))))))⟩
   have e0 : (81 : Int) = (addE rs (xa, xo, xs)) := by exact (addE_2 za za).symm
   have em : rs = (addM rs (xa, xo, xs)) := by exact (addM_2 za za).symm
   have a := zH a ap d
   rw [em] at a
   replace o := (o.trans2 (Ch.of_below p.below) (fun _ h => h.elim)).trans2 (Ch.of_wrote ap) (fun k e => e ▸ m)
   exact ⟨e6 e0, a, o⟩
  intro az
  refine zS ?_
  refine ⟨rfl, .inr ⟨c, b, a⟩, yH 10 zk (yR 10 rfl ?_ rfl)⟩
  refine zN [(I3 0), (I3 0), (U8 0)] 26 ?_
  intro ar be l
  have d := yS (yE a) l
  have n := yS (yE b) l
  have af : B_ ≤ ar := by rw [l.num]; exact g
  replace o := (o.trans2 (Ch.of_below u) (fun _ h => h.elim)).trans2 (Ch.of_below r) (fun _ h => h.elim)
  have m : (World.heap w).size ≤ ar ∨ (fun k => k = m_rs) ar := .inl (by rw [l.num]; exact o.size)
  have t := t.trans (l.below.mono g)
  replace g := Nat.le_trans g (l.below.size)
  have q := l.here
  refine zS ?_
  have c := zB c l.below
  have a := zB a l.below
  have b := zB b l.below
  refine ⟨rfl, .inr ⟨c, b, a⟩, yH 11 zk (yR 11 rfl ?_ rfl)⟩
  refine wE [(I3 ((lookB rs xa).1)), (I3 ((lookB rs xa).2.1)), (U8 ((lookB rs xa).2.2))] q ?_
  intro bb ac
  replace g := Nat.le_trans g (Nat.le_of_eq ac.size.symm)
  have c := zH c ac (zP c q zi)
  refine zS ?_
  refine ⟨rfl, .inl zk, mp 12 rfl (.bool false) (.inl zk) zg (hq := (zA (zA zG))) (yT zk (zD (wR (zJ (nQ (zF (zW (zD (yC (xD 7 8 zk zk zk ?_))))))))))⟩
  intro bc ab
  have t := t.trans (ac.below af)
  have t := t.trans (ab.mono g)
  replace g := Nat.le_trans g (ab.size)
  refine ⟨fun w => (w.heap[i]? = some (.cells [(.map (some m_rs)), ag].toArray 69 (0, 0))) ∧ (w.heap[b1]? = some (.cells [(I3 xa), (I3 xo), (U8 xs)].toArray 26 (0, 0))), ?_⟩
  have c := zB c ab
  have b := zB (zH b ac n) ab
  refine mp 0 rfl (pt i 0) (.inr ⟨c, b⟩) zg (hq := (zA zG)) (mp 1 rfl (pt i 0) (.inr ⟨c, b⟩) zg (hq := (zA zG)) (mp 2 rfl (pt i 0) (.inr ⟨c, b⟩) zg (hq := (zA zG)) (mt 3 [3, 7] rfl (.map (some m_rs)) ⟨c, b⟩ (yQ i 0 (.map (some m_rs)) zk zf (fun w2 h2 => zQ h2.1 rfl)) (hq := (zA zG)) (mp 4 rfl (pt b1 0) (.inr ⟨c, b⟩) zg (hq := (zA zG)) (mt 5 [5, 7] rfl (I3 xa) ⟨c, b⟩ (yQ b1 0 (I3 xa) zk zf (fun w2 h2 => zQ h2.2 rfl)) (hq := (zA zG)) (mt 6 [6, 7] rfl (Value.agg #[(I3 xa), (I3 xo), (U8 xs)]) ⟨c, b⟩ (R_loadA b1 0 [(I3 xa), (I3 xo), (U8 xs)] zk zf zf (fun w2 h2 => vT h2.2 0 zk)) (hq := (zA zG)) (yH 7 zk ?_)))))))
  refine yR 7 rfl ?_ rfl
  have a := zB (zH a ac d) ab
  refine L_glay (k := .i32) (f := vBrk) m_rs xa (xa, xo, xs) rs underlying66 underlying21 a zk zk zk (by first | exact isn za | (omega)) ?_
  intro bd al
  replace g := Nat.le_trans g (Nat.le_of_eq al.size.symm)
  have a := al.here
  refine zS ?_
  refine ⟨rfl, .inl zk, yT zk (zD (wR (zK (nQ (yA (yK [(I6 0)] ?_))))))⟩
  have e0 : (0 : Int) = (addE rs (xa, xo, xs)) := by exact (addE_0 za za).symm
  have em : (rs ++ [(xa, (xa, xo, xs))]) = (addM rs (xa, xo, xs)) := by exact (addM_0 za za).symm
  rw [em] at a
  replace o := (((o.trans2 (Ch.of_below l.below) (fun _ h => h.elim)).trans2 (Ch.of_wrote ac) (fun k e => e ▸ m)).trans2 (Ch.of_below ab) (fun _ h => h.elim)).trans2 (Ch.of_wrote al) (fun k e => e ▸ ah)
  exact ⟨e6 e0, a, o⟩
 skip
 refine yR 10 rfl ?_ rfl
 refine zN [(I3 0), (I3 0), (U8 0)] 26 ?_
 intro au bh j
 have d := yS (yE a) j
 have n := yS (yE b) j
 have af : B_ ≤ au := by rw [j.num]; exact g
 replace o := (o.trans2 (Ch.of_below u) (fun _ h => h.elim)).trans2 (Ch.of_below r) (fun _ h => h.elim)
 have m : (World.heap w).size ≤ au ∨ (fun k => k = m_rs) au := .inl (by rw [j.num]; exact o.size)
 have t := t.trans (j.below.mono g)
 replace g := Nat.le_trans g (j.below.size)
 have q := j.here
 refine zS ?_
 have c := zB c j.below
 have a := zB a j.below
 have b := zB b j.below
 refine ⟨rfl, .inr ⟨c, b, a⟩, wG 9 11 zk ?_ ?_⟩
 ·skip
  refine yR 9 rfl ?_ rfl
  refine zr (.bool ((gget rs xa).isSome)) (yN ((gget rs xa).isSome) ?_ ?_)
  ·intro a2
   refine zS ?_
   refine ⟨rfl, .inr ⟨c, b, a⟩, yH 11 zk (yR 11 rfl ?_ rfl)⟩
   refine wE [(I3 ((lookB rs xa).1)), (I3 ((lookB rs xa).2.1)), (U8 ((lookB rs xa).2.2))] q ?_
   intro bf ao
   replace g := Nat.le_trans g (Nat.le_of_eq ao.size.symm)
   refine zS ?_
   refine ⟨rfl, .inl zk, mp 12 rfl (.bool true) (.inl zk) zg (hq := (zA (zA zG))) (yT zk (zD (wR (zJ (nQ (zT (wR (zK (nQ (yA (zI (yK [(I6 81)] ?_))))))))))))⟩
   have e0 : (81 : Int) = (addE rs (xa, xo, xs)) := by exact (addE_2 za za).symm
   have em : rs = (addM rs (xa, xo, xs)) := by exact (addM_2 za za).symm
   have a := zH a ao d
   rw [em] at a
   replace o := (o.trans2 (Ch.of_below j.below) (fun _ h => h.elim)).trans2 (Ch.of_wrote ao) (fun k e => e ▸ m)
   exact ⟨e6 e0, a, o⟩
  intro a1
  refine zS ?_
  refine ⟨rfl, .inr ⟨c, b, a⟩, yH 11 zk (yR 11 rfl ?_ rfl)⟩
  refine wE [(I3 ((lookB rs xa).1)), (I3 ((lookB rs xa).2.1)), (U8 ((lookB rs xa).2.2))] q ?_
  intro ay aa
  replace g := Nat.le_trans g (Nat.le_of_eq aa.size.symm)
  have c := zH c aa (zP c q zi)
  refine zS ?_
  refine ⟨rfl, .inl zk, mp 12 rfl (.bool false) (.inl zk) zg (hq := (zA (zA zG))) (yT zk (zD (wR (zJ (nQ (zF (zW (zD (yC (xD 7 8 zk zk zk ?_))))))))))⟩
  intro ba z
  have t := t.trans (aa.below af)
  have t := t.trans (z.mono g)
  replace g := Nat.le_trans g (z.size)
  refine ⟨fun w => (w.heap[i]? = some (.cells [(.map (some m_rs)), ag].toArray 69 (0, 0))) ∧ (w.heap[b1]? = some (.cells [(I3 xa), (I3 xo), (U8 xs)].toArray 26 (0, 0))), ?_⟩
  have c := zB c z
  have b := zB (zH b aa n) z
  refine mp 0 rfl (pt i 0) (.inr ⟨c, b⟩) zg (hq := (zA zG)) (mp 1 rfl (pt i 0) (.inr ⟨c, b⟩) zg (hq := (zA zG)) (mp 2 rfl (pt i 0) (.inr ⟨c, b⟩) zg (hq := (zA zG)) (mt 3 [3, 7] rfl (.map (some m_rs)) ⟨c, b⟩ (yQ i 0 (.map (some m_rs)) zk zf (fun w2 h2 => zQ h2.1 rfl)) (hq := (zA zG)) (mp 4 rfl (pt b1 0) (.inr ⟨c, b⟩) zg (hq := (zA zG)) (mt 5 [5, 7] rfl (I3 xa) ⟨c, b⟩ (yQ b1 0 (I3 xa) zk zf (fun w2 h2 => zQ h2.2 rfl)) (hq := (zA zG)) (mt 6 [6, 7] rfl (Value.agg #[(I3 xa), (I3 xo), (U8 xs)]) ⟨c, b⟩ (R_loadA b1 0 [(I3 xa), (I3 xo), (U8 xs)] zk zf zf (fun w2 h2 => vT h2.2 0 zk)) (hq := (zA zG)) (yH 7 zk ?_)))))))
  refine yR 7 rfl ?_ rfl
  have a := zB (zH a aa d) z
  refine L_glay (k := .i32) (f := vBrk) m_rs xa (xa, xo, xs) rs underlying66 underlying21 a zk zk zk (by first | exact isn za | (omega)) ?_
  intro a9 an
  replace g := Nat.le_trans g (Nat.le_of_eq an.size.symm)
  have a := an.here
  refine zS ?_
  refine ⟨rfl, .inl zk, yT zk (zD (wR (zK (nQ (yA (yK [(I6 0)] ?_))))))⟩
  have e0 : (0 : Int) = (addE rs (xa, xo, xs)) := by exact (addE_0 za za).symm
  have em : (rs ++ [(xa, (xa, xo, xs))]) = (addM rs (xa, xo, xs)) := by exact (addM_0 za za).symm
  rw [em] at a
  replace o := (((o.trans2 (Ch.of_below j.below) (fun _ h => h.elim)).trans2 (Ch.of_wrote aa) (fun k e => e ▸ m)).trans2 (Ch.of_below z) (fun _ h => h.elim)).trans2 (Ch.of_wrote an) (fun k e => e ▸ ah)
  exact ⟨e6 e0, a, o⟩
 skip
 refine yR 11 rfl ?_ rfl
 refine wE [(I3 ((lookB rs xa).1)), (I3 ((lookB rs xa).2.1)), (U8 ((lookB rs xa).2.2))] q ?_
 intro bg s
 replace g := Nat.le_trans g (Nat.le_of_eq s.size.symm)
 have c := zH c s (zP c q zi)
 refine zS ?_
 refine ⟨rfl, .inl zk, yH 9 zk (yR 9 rfl ?_ rfl)⟩
 refine zr (.bool ((gget rs xa).isSome)) (yN ((gget rs xa).isSome) ?_ ?_)
 ·intro a6
  refine zS ?_
  refine ⟨rfl, .inl zk, mp 12 rfl (.bool true) (.inl zk) zg (hq := (zA (zA zG))) (yT zk (zD (wR (zJ (nQ (zT (wR (zK (nQ (yA (zI (yK [(I6 81)] ?_))))))))))))⟩
  have e0 : (81 : Int) = (addE rs (xa, xo, xs)) := by exact (addE_2 za za).symm
  have em : rs = (addM rs (xa, xo, xs)) := by exact (addM_2 za za).symm
  have a := zH a s d
  rw [em] at a
  replace o := (o.trans2 (Ch.of_below j.below) (fun _ h => h.elim)).trans2 (Ch.of_wrote s) (fun k e => e ▸ m)
  exact ⟨e6 e0, a, o⟩
 intro a5
 refine zS ?_
 refine ⟨rfl, .inl zk, mp 12 rfl (.bool false) (.inl zk) zg (hq := (zA (zA zG))) (yT zk (zD (wR (zJ (nQ (zF (zW (zD (yC (xD 7 8 zk zk zk ?_))))))))))⟩
 intro a0 y
 have t := t.trans (s.below af)
 have t := t.trans (y.mono g)
 replace g := Nat.le_trans g (y.size)
 refine ⟨fun w => (w.heap[i]? = some (.cells [(.map (some m_rs)), ag].toArray 69 (0, 0))) ∧ (w.heap[b1]? = some (.cells [(I3 xa), (I3 xo), (U8 xs)].toArray 26 (0, 0))), ?_⟩
 have c := zB c y
 have b := zB (zH b s n) y
 refine mp 0 rfl (pt i 0) (.inr ⟨c, b⟩) zg (hq := (zA zG)) (mp 1 rfl (pt i 0) (.inr ⟨c, b⟩) zg (hq := (zA zG)) (mp 2 rfl (pt i 0) (.inr ⟨c, b⟩) zg (hq := (zA zG)) (mt 3 [3, 7] rfl (.map (some m_rs)) ⟨c, b⟩ (yQ i 0 (.map (some m_rs)) zk zf (fun w2 h2 => zQ h2.1 rfl)) (hq := (zA zG)) (mp 4 rfl (pt b1 0) (.inr ⟨c, b⟩) zg (hq := (zA zG)) (mt 5 [5, 7] rfl (I3 xa) ⟨c, b⟩ (yQ b1 0 (I3 xa) zk zf (fun w2 h2 => zQ h2.2 rfl)) (hq := (zA zG)) (mt 6 [6, 7] rfl (Value.agg #[(I3 xa), (I3 xo), (U8 xs)]) ⟨c, b⟩ (R_loadA b1 0 [(I3 xa), (I3 xo), (U8 xs)] zk zf zf (fun w2 h2 => vT h2.2 0 zk)) (hq := (zA zG)) (yH 7 zk ?_)))))))
 refine yR 7 rfl ?_ rfl
 have a := zB (zH a s d) y
 refine L_glay (k := .i32) (f := vBrk) m_rs xa (xa, xo, xs) rs underlying66 underlying21 a zk zk zk (by first | exact isn za | (omega)) ?_
 intro a7 am
 replace g := Nat.le_trans g (Nat.le_of_eq am.size.symm)
 have a := am.here
 refine zS ?_
 refine ⟨rfl, .inl zk, yT zk (zD (wR (zK (nQ (yA (yK [(I6 0)] ?_))))))⟩
 have e0 : (0 : Int) = (addE rs (xa, xo, xs)) := by exact (addE_0 za za).symm
 have em : (rs ++ [(xa, (xa, xo, xs))]) = (addM rs (xa, xo, xs)) := by exact (addM_0 za za).symm
 rw [em] at a
 replace o := (((o.trans2 (Ch.of_below j.below) (fun _ h => h.elim)).trans2 (Ch.of_wrote s) (fun k e => e ▸ m)).trans2 (Ch.of_below y) (fun _ h => h.elim)).trans2 (Ch.of_wrote am) (fun k e => e ▸ ah)
 exact ⟨e6 e0, a, o⟩
theorem c_idx (k : Value) (s : List (Int × Int × Int)) (h : Nat) (m_rs : Nat) (rs : List (Int × (Int × Int × Int))) (d : Value) (ts : List (Int × Int)) (w : World) (e : Rd w encBrk k s) (g : w.heap[h]? = some (.cells [(.map (some m_rs)), d].toArray 69 (0, 0))) (c : GmAt .i32 vBrk w (.map (some m_rs)) rs) (a : GmAt .i32 vI32 w d ts) (hl : s.length ≤ 9223372036854775807) :
  Calls Tryz.prog 29 #[k, (.func (.func 30) #[(pt h 0)] #[])] w (Ret fun v w' => v = (I6 (idxL rs s)) ∧ Below w.heap.size w w') := by
 refine wO 19 func29 rfl ?_
 have j := Below.refl w.heap.size w
 refine wR (zK (nW (wR (zJ (zln underlying22 (e).len (zJ (nQ (yF (xG (fun m s0 w0 => ∃ (i : Nat), (m = s.length - i) ∧ (s0.ds = []) ∧ ([0, 1, 7, 8].map s0.f = [k, (.func (.func 30) #[(pt h 0)] #[]), (N6 ((s).length)), (N6 i)]) ∧ (Rd w0 encBrk k s) ∧ (GmAt .i32 vBrk w0 (.map (some m_rs)) rs) ∧ (GmAt .i32 vI32 w0 d ts) ∧ (w0.heap[h]? = some (.cells [(.map (some m_rs)), d].toArray 69 (0, 0))) ∧ (Below w.heap.size w w0) ∧ (i ≤ s.length) ∧ (LonI rs s i)) _ ⟨0, rfl, zk, zk, e, c, a, g, j, (Nat.zero_le _), (LonI.zero _ _)⟩ ?_)))))))))
 rintro m1 s2 w3 ⟨i, hm, n, p, e, c, a, g, j, i1, o⟩
 refine yZ p (wR (nLt i ((s).length) ?_ ?_))
 ·intro h4
  refine nW (zT (zW (zD (yC (yF (wR (zJ (zK (nR (zJ (zJ (zJ ?_))))))))))))
  have r := yB s i zo; obtain ⟨l, q⟩ := r
  refine zEA e wM i q [(I3 l.1), (I3 l.2.1), (U8 l.2.2)] rfl fun _ => (zc (c_lone h m_rs rs d ts l.1 l.2.1 l.2.2 _ g c a) ?_)
  rintro _ u ⟨rfl, b⟩
  refine yN (loneM rs (l.1, l.2.1, l.2.2)) ?_ ?_
  ·intro z
   have j := j.tr b
   exact nQ (zT (wR (zJ (zK (nQ (yA (zR (zI (zI (zR (zI (yK [(N6 i)] (hd := n) ⟨e6 (by exact (idxL_hit o za za).symm), j⟩))))))))))))
  intro t
  refine nQ (zF (zW (zL (zD (zY (xR i 1 (zJ (zS ?_))))))))
  have j := j.tr b
  have g := zB g b
  have c := c.below b
  have e := e.below b
  have a := a.below b
  exact zD ⟨_, zo, (i + 1), rfl, n, zk, e, c, a, g, j, zo, o.step za za⟩
 intro y
 exact nW (zF (yU (zV (zV (yI (zD (wR (zK (nQ (yA (yK [(I6 (-1))] (hd := n) ⟨e6 (by exact (idxL_end o zo).symm), j⟩)))))))))))
theorem c_New_ok (d : Value) (rows : List (Int × Int × Int)) (w : World) (c : Rd w encBrk d rows) (hl : rows.length ≤ 9223372036854775807) (hok : newB rows = none) :
  Calls Tryz.prog 10 #[d] w (Ret fun v w' => ∃ (cb0 mb0 : Nat), v = (.tuple #[(pt cb0 0), (I6 0), (I6 0)]) ∧ w'.heap[cb0]? = some (.cells [(.map (some mb0)), (.map none)].toArray 69 (0, 0)) ∧ w.heap.size ≤ cb0 ∧ w'.heap[mb0]? = some (gmObj .i32 vBrk (kv rows)) ∧ w.heap.size ≤ mb0 ∧ Below w.heap.size w w') := by
 refine wO 36 func10 rfl ?_
 have j := Below.refl w.heap.size w
 have h := c
 refine wR (zK (zK (zK (nR (L_gmk (T := 66) .i32 vBrk ?_)))))
 intro b1 w2 aa
 have p := aa.ge j.size
 have a := aa.here
 refine zr (Value.agg #[(.map (some b1)), (.map none)]) (zN [(.map (some b1)), (.map none)] 69 ?_)
 intro b4 w5 y
 have n := yS (yE a) y
 have o := NE.symm n
 have j := j.tr aa.below
 have ab := y.ge j.size
 have b := y.here
 have j := j.tr y.below
 have c := h.below j
 refine zK (nW (wR (zJ (zln underlying22 (c).len (zJ (nQ (yF ?_)))))))
 have a := zB a y.below
 refine xG (fun m s0 w0 => ∃ (i : Nat), (m = rows.length - i) ∧ (s0.ds = []) ∧ ([0, 5, 13, 14, 15].map s0.f = [d, (pt b4 0), d, (N6 ((rows).length)), (N6 i)]) ∧ (Rd w0 encBrk d rows) ∧ (w0.heap[b1]? = some (gmObj .i32 vBrk (kv (rows.take i)))) ∧ (w0.heap[b4]? = some (.cells [(.map (some b1)), (.map none)].toArray 69 (0, 0))) ∧ (Below w.heap.size w w0) ∧ (i ≤ rows.length) ∧ (FstI rows i)) _ ⟨0, rfl, zk, zk, c, a, b, j, (Nat.zero_le _), (FstI.zero _)⟩ ?_
 rintro m7 s8 w9 ⟨i, hm, ae, aj, c, a, b, j, i1, i2⟩
 refine yZ aj (wR (nLt i ((rows).length) ?_ ?_))
 ·intro aw
  refine nW (zT (zW (zD (yC (yF (wR (zJ ?_)))))))
  have hz := yB rows i zo; obtain ⟨g, u⟩ := hz
  refine zEA c wM i u [(I3 g.1), (I3 g.2.1), (U8 g.2.2)] rfl fun _ => (zN [(I3 0), (I3 0), (U8 0)] 26 ?_)
  intro am ao l
  have q := yS (yE a) l
  have af := l.ge j.size
  have r := l.here
  refine zK (wE [(I3 g.1), (I3 g.2.1), (U8 g.2.2)] r ?_)
  intro ap s
  have b := zB b l.below
  have b := zH b s (zP b r zi)
  have r := s.here
  have j := (j.tr l.below).trans (s.below af)
  have a := zH (zB a l.below) s q
  refine nR (zJ (zOW r (zc (c_add b4 b1 (kv (rows.take i)) (.map none) g.1 g.2.1 g.2.2 w.heap.size _ j.size b a p) ?_)))
  rintro _ ar ⟨rfl, ah, z⟩
  have j := z.below j j.size (fun k e => e ▸ p)
  have a := ah
  refine zK (nR (zJ (zNe .i64 (addE (kv (rows.take i)) (g.1, g.2.1, g.2.2)) 0 ?_ ?_)))
  ·intro al
   exfalso; (rw [i2.no za al] at hok; cases hok)
  intro ag
  refine nQ (zF (zW (zL (zD (zY (xR i 1 (zJ (zS ?_))))))))
  have eM : (addM (kv (rows.take i)) (g.1, g.2.1, g.2.2)) = kv (rows.take (i + 1)) := addM_take u ag
  rw [eM] at a
  have eF := i2.add u ag
  have b := zZ b z (fun e => o e)
  have c := h.below j
  exact zD ⟨_, zo, (i + 1), rfl, ae, zk, c, a, b, j, zo, eF⟩
 intro au
 refine nW (zF (yU (zV (zV (yI (zD (yC (wR (zJ (zJ (zr (.func (.func 30) #[(pt b4 0)] #[]) (zc (c_idx d rows b4 b1 (kv (rows.take i)) (.map none) [] _ c b (GmAt.of a) (.inl ⟨rfl, rfl⟩) zo) ?_))))))))))))
 rintro _ ay ⟨rfl, t⟩
 refine zK (nR (zJ (zGe .i64 (idxL (kv (rows.take i)) rows) 0 ?_ ?_)))
 ·intro ak
  exfalso; (rw [new_lone i2 zo ak] at hok; cases hok)
 intro az
 refine nQ (zF (zW (zD (wR (zJ (zK (zK (zK (nQ (yA (yK [(pt b4 0), (I6 0), (I6 0)] (hd := ae) ?_)))))))))))
 have e0 : (0 : Int) = 0 := by rfl
 have e1 : (0 : Int) = 0 := by rfl
 have em : (kv (rows.take i)) = (kv rows) := by exact kv_all zo
 have a := zB a t
 rw [em] at a
 have j := j.tr t
 have b := zB b t
 exact ⟨b4, b1, rfl, b, ab, a, p, j⟩
theorem c_New_bad (g : Value) (rows : List (Int × Int × Int)) (w : World) (c : Rd w encBrk g rows) (hl : rows.length ≤ 9223372036854775807) (hbad : newB rows ≠ none) :
  Calls Tryz.prog 10 #[g] w (Ret fun v w' => v = (.tuple #[(.pointer none), (N6 (newI rows)), (I6 (newE rows))]) ∧ Below w.heap.size w w') := by
 refine wO 36 func10 rfl ?_
 have j := Below.refl w.heap.size w
 have h := c
 refine wR (zK (zK (zK (nR (L_gmk (T := 66) .i32 vBrk ?_)))))
 intro b1 w2 aa
 have s := aa.ge j.size
 have a := aa.here
 refine zr (Value.agg #[(.map (some b1)), (.map none)]) (zN [(.map (some b1)), (.map none)] 69 ?_)
 intro b4 w5 u
 have n := yS (yE a) u
 have o := NE.symm n
 have j := j.tr aa.below
 have aj := u.ge j.size
 have b := u.here
 have j := j.tr u.below
 have c := h.below j
 refine zK (nW (wR (zJ (zln underlying22 (c).len (zJ (nQ (yF ?_)))))))
 have a := zB a u.below
 refine xG (fun m s0 w0 => ∃ (i : Nat), (m = rows.length - i) ∧ (s0.ds = []) ∧ ([0, 5, 13, 14, 15].map s0.f = [g, (pt b4 0), g, (N6 ((rows).length)), (N6 i)]) ∧ (Rd w0 encBrk g rows) ∧ (w0.heap[b1]? = some (gmObj .i32 vBrk (kv (rows.take i)))) ∧ (w0.heap[b4]? = some (.cells [(.map (some b1)), (.map none)].toArray 69 (0, 0))) ∧ (Below w.heap.size w w0) ∧ (i ≤ rows.length) ∧ (FstI rows i)) _ ⟨0, rfl, zk, zk, c, a, b, j, (Nat.zero_le _), (FstI.zero _)⟩ ?_
 rintro m7 s8 w9 ⟨i, hm, z, ai, c, a, b, j, i1, i2⟩
 refine yZ ai (wR (nLt i ((rows).length) ?_ ?_))
 ·intro av
  refine nW (zT (zW (zD (yC (yF (wR (zJ ?_)))))))
  have hz := yB rows i zo; obtain ⟨d, t⟩ := hz
  refine zEA c wM i t [(I3 d.1), (I3 d.2.1), (U8 d.2.2)] rfl fun _ => (zN [(I3 0), (I3 0), (U8 0)] 26 ?_)
  intro al an l
  have p := yS (yE a) l
  have ae := l.ge j.size
  have q := l.here
  refine zK (wE [(I3 d.1), (I3 d.2.1), (U8 d.2.2)] q ?_)
  intro ao r
  have b := zB b l.below
  have b := zH b r (zP b q zi)
  have q := r.here
  have j := (j.tr l.below).trans (r.below ae)
  have a := zH (zB a l.below) r p
  refine nR (zJ (zOW q (zc (c_add b4 b1 (kv (rows.take i)) (.map none) d.1 d.2.1 d.2.2 w.heap.size _ j.size b a s) ?_)))
  rintro _ ar ⟨rfl, ah, y⟩
  have j := y.below j j.size (fun k e => e ▸ s)
  have a := ah
  refine zK (nR (zJ (zNe .i64 (addE (kv (rows.take i)) (d.1, d.2.1, d.2.2)) 0 ?_ ?_)))
  ·intro ay
   exact nQ (zT (wR (zJ (zJ (zK (zK (zK (nQ (yA (zR (zI (zI (zR (zI (yK [(.pointer none), (N6 i), (I6 (addE (kv (rows.take i)) (d.1, d.2.1, d.2.2)))] (hd := z) ⟨wK rfl (e6 (by (rw [(vR (i2.no za za)).1]; done))) (e6 (by exact (vR (i2.no za za)).2.symm)), j⟩)))))))))))))))
  intro af
  refine nQ (zF (zW (zL (zD (zY (xR i 1 (zJ (zS ?_))))))))
  have eM : (addM (kv (rows.take i)) (d.1, d.2.1, d.2.2)) = kv (rows.take (i + 1)) := addM_take t af
  rw [eM] at a
  have eF := i2.add t af
  have b := zZ b y (fun e => o e)
  have c := h.below j
  exact zD ⟨_, zo, (i + 1), rfl, z, zk, c, a, b, j, zo, eF⟩
 intro au
 refine nW (zF (yU (zV (zV (yI (zD (yC (wR (zJ (zJ (zr (.func (.func 30) #[(pt b4 0)] #[]) (zc (c_idx g rows b4 b1 (kv (rows.take i)) (.map none) [] _ c b (GmAt.of a) (.inl ⟨rfl, rfl⟩) zo) ?_))))))))))))
 rintro _ ax ⟨rfl, ad⟩
 refine zK (nR (zJ (zGe .i64 (idxL (kv (rows.take i)) rows) 0 ?_ ?_)))
 ·intro aq
  have j := j.tr ad
  exact nQ (zT (wR (zJ (zK (zK (zK (nQ (yA (zI (yK [(.pointer none), (I6 (idxL (kv (rows.take i)) rows)), (I6 82)] (hd := z) ⟨wK rfl (e6 (by (rw [(vR (new_lone i2 zo za)).1]; omega))) (e6 (by exact (vR (new_lone i2 zo za)).2.symm)), j⟩))))))))))
 intro ak
 exfalso; exact hbad (new_ok i2 zo ak)
end Go.Proofs.YtddnhlobnembaaaGreatDoor
end

/- === Wcsw === -/
section
/- Walks, written by my program walk.py out of the specification csw.py: each theorem says what one function returns and that it leaves memory as it was. -/
namespace Go.Proofs.YtddnhlobnembaaaGreatDoor
open Go Go.RowKit Go.FK _root_.Go.Proofs.Tryz
set_option maxHeartbeats 4000000
set_option maxRecDepth 100000
theorem c_isnan (x : Int) (w : World) :
  Calls Tryz.prog 156 #[(I3 x)] w (Ret fun v w' => v = (.bool false) ∧ Below w.heap.size w w') := by
 refine wO 6 func156 rfl ?_
 have b := Below.refl w.heap.size w
 refine wR (zK (nR (zJ (zJ (zNe .i32 x x ?_ ?_)))))
 ·intro a
  exact (a rfl).elim
 intro c
 exact zK (nQ (yA (yK [(.bool false)] ⟨rfl, b⟩)))
theorem qO (x : Int) (y : Int) (w : World) :
  Calls Tryz.prog 134 #[(I3 x), (I3 y)] w (Ret fun v w' => v = (.bool (decide (x < y))) ∧ Below w.heap.size w w') := by
 refine wO 17 func134 rfl ?_
 have a := Below.refl w.heap.size w
 refine wR (zK (nR (zJ (zc (c_isnan x _ ) ?_))))
 rintro _ c ⟨rfl, b⟩
 refine zJ (zs (zs (zs (xY (zJ (zw (zJ (zw (zJ (zw (zLt .i32 x y ?_ ?_)))))))))))
 ·intro d
  have a := a.tr b
  exact xY (zK (nQ (yA (yK [(.bool true)] ⟨eb (by exact (decide_eq_true za).symm), a⟩))))
 intro e
 have a := a.tr b
 exact xY (zK (nQ (yA (yK [(.bool false)] ⟨eb (by exact (decide_eq_false zo).symm), a⟩))))
theorem c_insort (B_ : Nat) (d : Value) (s : List (Int)) (a : Nat) (b : Nat) (w : World) (hs0 : B_ ≤ w.heap.size) (c : Row w B_ 21 1 encI32 d s) (h1 : a ≤ b) (h2 : b ≤ s.length) (h3 : s.length ≤ 4611686018427387904) :
  Calls Tryz.prog 128 #[d, (N6 a), (N6 b)] w (Ret fun v w' => ∃ (ys : List (Int)), v = (.tuple #[]) ∧ Row w' B_ 21 1 encI32 d ys ∧ (Sw a b s ys) ∧ (Srt ys a b) ∧ Ch (fun k => Value.ownBlock d = some k) w w') := by
 refine wO 49 func128 rfl ?_
 have q := Below.refl B_ w
 have o : B_ ≤ (World.heap w).size := hs0
 have hc := Ch.refl (fun k => Value.ownBlock d = some k) w
 have ad : ∀ g, Value.ownBlock d = some g → (World.heap w).size ≤ g ∨ (fun k => Value.ownBlock d = some k) g := fun g h => .inr h
 refine wR (zJ (xR a 1 (zK (nQ (yF (xG (fun m s0 w0 => ∃ (i : Nat) (ys : List Int), (m = b - i) ∧ (s0.ds = []) ∧ ([0, 1, 2, 6].map s0.f = [d, (N6 a), (N6 b), (N6 i)]) ∧ (Row w0 B_ 21 1 encI32 d ys) ∧ (Below B_ w w0) ∧ (Ch (fun k => Value.ownBlock d = some k) w w0) ∧ (B_ ≤ w0.heap.size) ∧ (a + 1 ≤ i ∧ (i ≤ b ∨ b ≤ a)) ∧ (ys.length = s.length) ∧ (Sw a b s ys) ∧ (Srt ys a i)) _ ⟨(a + 1), s, rfl, zk, zk, c, q, hc, o, zo, rfl, .refl, (srt_nil zo)⟩ ?_))))))
 rintro m1 s2 w3 ⟨i, ys, hm, ah, ax, c, q, hc, o, i1, i3, i4, i5⟩
 refine yZ ax (yC (wR (zJ (zJ (nLt i b ?_ ?_)))))
 ·intro h4
  refine nQ (zT (zW (zD (yC (yF (wR (zJ (zK (nQ (yF (xG (fun m s0 w0 => ∃ (j : Nat) (zs : List Int), (m = j) ∧ (s0.ds = []) ∧ ([0, 1, 2, 6, 7].map s0.f = [d, (N6 a), (N6 b), (N6 i), (N6 j)]) ∧ (Row w0 B_ 21 1 encI32 d zs) ∧ (Below B_ w w0) ∧ (Ch (fun k => Value.ownBlock d = some k) w w0) ∧ (B_ ≤ w0.heap.size) ∧ (a ≤ j ∧ j ≤ i) ∧ (zs.length = s.length) ∧ (Sw a b s zs) ∧ (Ins zs a i j)) _ ⟨i, ys, rfl, ah, zk, c, q, hc, o, zo, i3, i4, (Ins.start i5)⟩ ?_)))))))))))
  rintro m5 s6 w7 ⟨j, zs, hm, ah, ax, c, q, hc, o, j1, j3, j4, j5⟩
  refine yZ ax (yC (yC (yP zk zk (zU (zU (xB .i64 ((j : Nat) : Int) ((a : Nat) : Int) (a < j) rfl (cmpN_gt j a) zk zk ?_ ?_))))))
  ·intro h8
   replace h8 : a < j := by omega
   refine zU (qw (zU (qw (zU (qw ?_)))))
   have r := yB zs j zo; obtain ⟨x9, l⟩ := r
   have r := (c.rd).at (k := 1) zj l
   obtain ⟨a2, an, a4, a1⟩ := r
   refine yM (k := .i64) d j _ a2 an xC a4 zo zk zk (qw (zX a2 (an + j * 1) (I3 x9) zk zf (a1 0 _ rfl) (qw (zU (qw (zU (qw (Lq_subN j 1 zo zo zk zk (qw ?_)))))))))
   have r := yB zs (j - 1) zo; obtain ⟨n, p⟩ := r
   have r := (c.rd).at (k := 1) zj p
   obtain ⟨a3, aj, a6, a5⟩ := r
   refine yM (k := .i64) d (j - 1) _ a3 aj xC a6 zo zk zk (qw (zX a3 (aj + (j - 1) * 1) (I3 n) zk zf (a5 0 _ rfl) (qw (xE 134 [(I3 x9), (I3 n)] (.bool (decide (x9 < n))) zg (fun wq hbq => qO x9 n wq ) (yL (decide (x9 < n)) ?_ ?_)))))
   ·intro be
    have bc := el_lt l p be
    refine qT (yG ?_)
    intro bu af
    replace q := q.trans (af.mono o)
    replace o := Nat.le_trans o (af.size)
    refine zD (zT (zW (zD (yC (yF (xD 15 18 zk zk zk ?_))))))
    intro br aa
    replace q := q.trans (aa.mono o)
    replace o := Nat.le_trans o (aa.size)
    refine ⟨fun w => (Rd w encI32 d zs), ?_⟩
    replace c := (c.below af).below aa
    refine mp 0 rfl d (.inr c.rd) zg (hq := (zC (zA (zA (zC (zC (zA (zA (zC zG))))))))) (mp 1 rfl (N6 j) (.inr c.rd) zg (hq := (zC (zA (zA (zC (zC (zA (zA (zC zG))))))))) (mp 2 rfl d (.inr c.rd) zg (hq := (zC (zA (zA (zC (zC (zA (zA (zC zG))))))))) (mp 3 rfl (N6 j) (.inr c.rd) zg (hq := (zC (zA (zA (zC (zC (zA (zA (zC zG))))))))) (mp 4 rfl (N6 (j - 1)) (.inr c.rd) (fun w2 _ => RI_subN j 1 zo zo zk zk w2) (hq := (zC (zA (zA (zC (zC (zA (zA (zC zG))))))))) (mp 5 rfl d (.inr c.rd) zg (hq := (zC (zA (zA (zC (zC (zA (zA (zC zG))))))))) (mp 6 rfl (N6 j) (.inr c.rd) zg (hq := (zC (zA (zA (zC (zC (zA (zA (zC zG))))))))) (mp 7 rfl (N6 (j - 1)) (.inr c.rd) (fun w2 _ => RI_subN j 1 zo zo zk zk w2) (hq := (zC (zA (zA (zC (zC (zA (zA (zC zG))))))))) ?_)))))))
    have r := (c.rd).at (k := 1) zj p; obtain ⟨av, u, ao, bi⟩ := r
    refine mp 8 rfl (pt av (u + (j - 1) * 1)) (.inr c.rd) (yJ (k := .i64) d (j - 1) _ av u xC ao zo zk zk) (hq := (zC (zA (zA (zC (zC (zA (zA (zC zG))))))))) (mt 9 [9, 14, 15, 16, 17] rfl (I3 n) c.rd (yQ av (u + (j - 1) * 1) (I3 n) zk zf (fun w2 h2 => Rd.later (k := 1) h2 zj ao p 0 _ rfl)) (hq := (zC (zA (zA (zC (zC (zA (zA (zC zG))))))))) (mp 10 rfl d (.inr c.rd) zg (hq := (zC (zA (zA (zC (zC (zA (zA (zC zG))))))))) (mp 11 rfl (N6 j) (.inr c.rd) zg (hq := (zC (zA (zA (zC (zC (zA (zA (zC zG))))))))) ?_)))
    have r := (c.rd).at (k := 1) zj l; obtain ⟨aw, z, ap, bj⟩ := r
    refine mp 12 rfl (pt aw (z + j * 1)) (.inr c.rd) (yJ (k := .i64) d j _ aw z xC ap zo zk zk) (hq := (zC (zA (zA (zC (zC (zA (zA (zC zG))))))))) (mt 13 [13, 14, 15, 16, 17] rfl (I3 x9) c.rd (yQ aw (z + j * 1) (I3 x9) zk zf (fun w2 h2 => Rd.later (k := 1) h2 zj ap l 0 _ rfl)) (hq := (zC (zA (zA (zC (zC (zA (zA (zC zG))))))))) ?_)
    have r := (c.rd).at (k := 1) zj l; obtain ⟨au, y, aq, bm⟩ := r
    refine mp 14 rfl (pt au (y + j * 1)) (.inr c.rd) (yJ (k := .i64) d j _ au y xC aq zo zk zk) (hq := (zC (zA (zA (zC (zC (zA (zA (zC zG))))))))) (yH 15 zk (yR 15 rfl ?_ rfl))
    refine yW j 0 au y x9 n (I3 n) c zj l aq zk zk rfl zk zk rfl ?_
    intro bp a0 al
    replace q := q.tg o al c
    replace o := Nat.le_trans o (al.size)
    replace c := a0
    have bn : (List.set zs j n)[j]? = some n := xA l
    refine zS ?_
    refine ⟨rfl, .inl zk, ?_⟩
    have r := yB (List.set zs j n) (j - 1) (by (simp only [yX, List.length_set] at *; omega)); obtain ⟨a8, am⟩ := r
    have r := (c.rd).at (k := 1) zj am; obtain ⟨ay, t, ar, bl⟩ := r
    refine mp 16 rfl (pt ay (t + (j - 1) * 1)) (.inl zk) (yJ (k := .i64) d (j - 1) _ ay t xC ar (by (simp only [yX, List.length_set] at *; omega)) zk zk) (hq := (zC (zA (zA (zC (zC (zA (zA (zC zG))))))))) (yH 17 zk (yR 17 rfl ?_ rfl))
    refine yW (j - 1) 0 ay t a8 x9 (I3 x9) c zj am ar zk zk rfl zk zk rfl ?_
    intro bz az ak
    replace q := q.tg o ak c
    replace o := Nat.le_trans o (ak.size)
    replace c := az
    have bk : (List.set (List.set zs j n) (j - 1) x9)[(j - 1)]? = some x9 := xA am
    have eS := xU l p
    replace c := c.cast eS; clear eS
    refine zS ?_
    refine ⟨rfl, .inl zk, yT zk (zL (zD (zY (zJ (zsb j 1 (zK (zS ?_)))))))⟩
    replace hc := (((hc.trans2 (Ch.of_below af) (fun _ h => h.elim)).trans2 (Ch.of_below aa) (fun _ h => h.elim)).trans2 (Ch.of_grown al) (fun k e => ad k e)).trans2 (Ch.of_grown ak) (fun k e => ad k e)
    refine zD ⟨_, zo, (j - 1), (swp zs j (j - 1)), rfl, ah, zk, c, q, hc, o, zo, ?_, ?_, ?_⟩
    ·rw [yX]; exact j3
    ·exact .swap j (j - 1) j4 zo zo zo
    exact j5.step zo zo zo (el_lt za za za)
   intro bd
   have a7 := el_le l p bd
   refine qT (yG ?_)
   intro bw ac
   replace q := q.trans (ac.mono o)
   replace o := Nat.le_trans o (ac.size)
   refine zD (zF (yU (zV (zV (yI (zL (zD (zY (zJ (xR i 1 (zK (zS ?_))))))))))))
   replace hc := hc.trans2 (Ch.of_below ac) (fun _ h => h.elim)
   replace c := c.below ac
   refine zD ⟨_, zo, (i + 1), zs, rfl, ah, zk, c, q, hc, o, zo, ?_, ?_, ?_⟩
   ·exact j3
   ·exact j4
   exact j5.done zo (.inr (el_le za za za))
  intro a9
  replace a9 : j ≤ a := by omega
  refine zU (qs (qs (qs (qs (qs (qs (qs (qs (qs (qs (qF (yG ?_))))))))))))
  intro bt ag
  replace q := q.trans (ag.mono o)
  replace o := Nat.le_trans o (ag.size)
  refine zD (zF (yU (zV (zV (yI (zL (zD (zY (zJ (xR i 1 (zK (zS ?_))))))))))))
  replace hc := hc.trans2 (Ch.of_below ag) (fun _ h => h.elim)
  replace c := c.below ag
  refine zD ⟨_, zo, (i + 1), zs, rfl, ah, zk, c, q, hc, o, zo, ?_, ?_, ?_⟩
  ·exact j3
  ·exact j4
  exact j5.done zo (.inl zo)
 intro bv
 refine nQ (zF (yU (zV (zV (yI (znrm [] (hd := ah) ?_))))))
 exact ⟨ys, rfl, c, (by exact i4), (by exact i5.le zo), hc⟩
theorem c_sift (B_ : Nat) (b : Value) (s : List (Int)) (lo : Nat) (hi : Nat) (ff : Nat) (w : World) (hs0 : B_ ≤ w.heap.size) (a : Row w B_ 21 1 encI32 b s) (h2 : ff + hi ≤ s.length) (h3 : s.length ≤ 2305843009213693952) (h4 : lo ≤ 2305843009213693952) (h5 : HP s ff (lo + 1) hi) :
  Calls Tryz.prog 151 #[b, (N6 lo), (N6 hi), (N6 ff)] w (Ret fun v w' => ∃ (ys : List (Int)), v = (.tuple #[]) ∧ Row w' B_ 21 1 encI32 b ys ∧ (Sw (ff + lo) (ff + hi) s ys) ∧ (HP ys ff lo hi) ∧ Ch (fun k => Value.ownBlock b = some k) w w') := by
 refine wO 76 func151 rfl ?_
 have j := Below.refl B_ w
 have c : B_ ≤ (World.heap w).size := hs0
 have hc := Ch.refl (fun k => Value.ownBlock b = some k) w
 have o : ∀ g, Value.ownBlock b = some g → (World.heap w).size ≤ g ∨ (fun k => Value.ownBlock b = some k) g := fun g h => .inr h
 refine wR (zJ (zK (nQ (yF (xG (fun m s0 w0 => ∃ (r : Nat) (ys : List Int), (m = hi - r) ∧ (s0.ds = []) ∧ ([0, 2, 3, 8].map s0.f = [b, (N6 hi), (N6 ff), (N6 r)]) ∧ (Row w0 B_ 21 1 encI32 b ys) ∧ (Below B_ w w0) ∧ (Ch (fun k => Value.ownBlock b = some k) w w0) ∧ (B_ ≤ w0.heap.size) ∧ (lo ≤ r ∧ (r = lo ∨ r < hi)) ∧ (ys.length = s.length) ∧ (Sw (ff + lo) (ff + hi) s ys) ∧ (HX ys ff lo hi r)) _ ⟨lo, s, rfl, zk, zk, a, j, hc, c, zo, rfl, .refl, (HX.start h5)⟩ ?_)))))
 rintro m1 s2 w3 ⟨r, ys, hm, a0, d7, a, j, hc, c, i1, i3, i4, i5⟩
 refine yZ d7 (yF (wR (zJ (L_mulN 2 r zo zk zk (xR (2 * r) 1 (zK (nW (wR (zJ (zJ (nGe ((2 * r) + 1) hi ?_ ?_)))))))))))
 ·intro h4
  refine nQ (zT (yU (zV (zxo (zV (yI (znrm [] (hd := a0) ?_)))))))
  exact ⟨ys, rfl, a, (by exact i4), (by exact i5.done (mx_none zo)), hc⟩
 intro h5
 refine nQ (zF (zW (zD (yC (yC (yP zk zk (zU (Lq_addN ((2 * r) + 1) 1 zo zk zk (zU (xB .i64 (((((2 * r) + 1) + 1) : Nat) : Int) ((hi : Nat) : Int) ((((2 * r) + 1) + 1) < hi) rfl (cmpN_lt (((2 * r) + 1) + 1) hi) zk zk ?_ ?_))))))))))
 ·intro h6
  replace h6 : (((2 * r) + 1) + 1) < hi := by omega
  refine zU (qw (zU (qw (zU (qw (zU (qw (Lq_addN ff ((2 * r) + 1) zo zk zk (qw ?_)))))))))
  have d := yB ys (ff + ((2 * r) + 1)) zo; obtain ⟨x7, af⟩ := d
  have d := (a.rd).at (k := 1) zj af
  obtain ⟨g9, bm, c6, cu⟩ := d
  refine yM (k := .i64) b (ff + ((2 * r) + 1)) _ g9 bm xC c6 zo zk zk (qw (zX g9 (bm + (ff + ((2 * r) + 1)) * 1) (I3 x7) zk zf (cu 0 _ rfl) (qw (zU (qw (zU (qw (zU (qw (Lq_addN ff ((2 * r) + 1) zo zk zk (qw (Lq_addN (ff + ((2 * r) + 1)) 1 zo zk zk (qw ?_)))))))))))))
  have d := yB ys ((ff + ((2 * r) + 1)) + 1) zo; obtain ⟨bg, bk⟩ := d
  have d := (a.rd).at (k := 1) zj bk
  obtain ⟨cq, bj, cw, dc⟩ := d
  refine yM (k := .i64) b ((ff + ((2 * r) + 1)) + 1) _ cq bj xC cw zo zk zk (qw (zX cq (bj + ((ff + ((2 * r) + 1)) + 1) * 1) (I3 bg) zk zf (dc 0 _ rfl) (qw (xE 134 [(I3 x7), (I3 bg)] (.bool (decide (x7 < bg))) zg (fun wq hbq => qO x7 bg wq ) (yL (decide (x7 < bg)) ?_ ?_)))))
  ·intro du
   have d4 := el_lt af bk du
   refine qT (yG ?_)
   intro ew ar
   replace j := j.trans (ar.mono c)
   replace c := Nat.le_trans c (ar.size)
   refine zD (zT (zY (zJ (xR ((2 * r) + 1) 1 (zK (nW (yC (yP zk zk (zU (zU (zU (Lq_addN ff r zo zk zk ?_))))))))))))
   have d := yB ys (ff + r) zo; obtain ⟨z, p⟩ := d
   replace a := a.below ar
   have d := (a.rd).at (k := 1) zj p
   obtain ⟨cz, bw, db, c3⟩ := d
   refine yM (k := .i64) b (ff + r) _ cz bw xC db zo zk zk (zX cz (bw + (ff + r) * 1) (I3 z) zk zf (c3 0 _ rfl) (zU (zU (zU (Lq_addN ff (((2 * r) + 1) + 1) zo zk zk ?_)))))
   have d := yB ys (ff + (((2 * r) + 1) + 1)) zo; obtain ⟨u, ac⟩ := d
   have d := (a.rd).at (k := 1) zj ac
   obtain ⟨ct, bl, c8, cr⟩ := d
   refine yM (k := .i64) b (ff + (((2 * r) + 1) + 1)) _ ct bl xC c8 zo zk zk (zX ct (bl + (ff + (((2 * r) + 1) + 1)) * 1) (I3 u) zk zf (cr 0 _ rfl) (xE 134 [(I3 z), (I3 u)] (.bool (decide (z < u))) zg (fun wq hbq => qO z u wq ) (yL (decide (z < u)) ?_ ?_)))
   ·intro d5
    have dy := el_lt p ac d5
    refine xF true zk (yG ?_)
    intro ev ba
    replace j := j.trans (ba.mono c)
    replace c := Nat.le_trans c (ba.size)
    refine zD (zF (zW (zD (yC (xD 21 24 zk zk zk ?_)))))
    intro eu bc
    replace j := j.trans (bc.mono c)
    replace c := Nat.le_trans c (bc.size)
    refine ⟨fun w => (Rd w encI32 b ys), ?_⟩
    replace a := (a.below ba).below bc
    refine mp 0 rfl b (.inr a.rd) zg (hq := (zA (zC (zA (zC zG))))) (mp 1 rfl (N6 ff) (.inr a.rd) zg (hq := (zA (zC (zA (zC zG))))) (mp 2 rfl (N6 r) (.inr a.rd) zg (hq := (zA (zC (zA (zC zG))))) (mp 3 rfl (N6 (ff + r)) (.inr a.rd) (fun w2 _ => wQ ff r zo zk zk w2) (hq := (zA (zC (zA (zC zG))))) (mp 4 rfl b (.inr a.rd) zg (hq := (zA (zC (zA (zC zG))))) (mp 5 rfl (N6 ff) (.inr a.rd) zg (hq := (zA (zC (zA (zC zG))))) (mp 6 rfl (N6 (((2 * r) + 1) + 1)) (.inr a.rd) zg (hq := (zA (zC (zA (zC zG))))) (mp 7 rfl (N6 (ff + (((2 * r) + 1) + 1))) (.inr a.rd) (fun w2 _ => wQ ff (((2 * r) + 1) + 1) zo zk zk w2) (hq := (zA (zC (zA (zC zG))))) (mp 8 rfl b (.inr a.rd) zg (hq := (zA (zC (zA (zC zG))))) (mp 9 rfl (N6 ff) (.inr a.rd) zg (hq := (zA (zC (zA (zC zG))))) (mp 10 rfl (N6 (((2 * r) + 1) + 1)) (.inr a.rd) zg (hq := (zA (zC (zA (zC zG))))) (mp 11 rfl (N6 (ff + (((2 * r) + 1) + 1))) (.inr a.rd) (fun w2 _ => wQ ff (((2 * r) + 1) + 1) zo zk zk w2) (hq := (zA (zC (zA (zC zG))))) ?_)))))))))))
    have d := (a.rd).at (k := 1) zj ac; obtain ⟨ce, az, b9, ej⟩ := d
    refine mp 12 rfl (pt ce (az + (ff + (((2 * r) + 1) + 1)) * 1)) (.inr a.rd) (yJ (k := .i64) b (ff + (((2 * r) + 1) + 1)) _ ce az xC b9 zo zk zk) (hq := (zA (zC (zA (zC zG))))) (mt 13 [13, 20, 21, 22, 23] rfl (I3 u) a.rd (yQ ce (az + (ff + (((2 * r) + 1) + 1)) * 1) (I3 u) zk zf (fun w2 h2 => Rd.later (k := 1) h2 zj b9 ac 0 _ rfl)) (hq := (zA (zC (zA (zC zG))))) (mp 14 rfl b (.inr a.rd) zg (hq := (zA (zC (zA (zC zG))))) (mp 15 rfl (N6 ff) (.inr a.rd) zg (hq := (zA (zC (zA (zC zG))))) (mp 16 rfl (N6 r) (.inr a.rd) zg (hq := (zA (zC (zA (zC zG))))) (mp 17 rfl (N6 (ff + r)) (.inr a.rd) (fun w2 _ => wQ ff r zo zk zk w2) (hq := (zA (zC (zA (zC zG))))) ?_)))))
    have d := (a.rd).at (k := 1) zj p; obtain ⟨ck, a5, b7, eg⟩ := d
    refine mp 18 rfl (pt ck (a5 + (ff + r) * 1)) (.inr a.rd) (yJ (k := .i64) b (ff + r) _ ck a5 xC b7 zo zk zk) (hq := (zA (zC (zA (zC zG))))) (mt 19 [19, 20, 21, 22, 23] rfl (I3 z) a.rd (yQ ck (a5 + (ff + r) * 1) (I3 z) zk zf (fun w2 h2 => Rd.later (k := 1) h2 zj b7 p 0 _ rfl)) (hq := (zA (zC (zA (zC zG))))) ?_)
    have d := (a.rd).at (k := 1) zj p; obtain ⟨cc, ay, cb, d9⟩ := d
    refine mp 20 rfl (pt cc (ay + (ff + r) * 1)) (.inr a.rd) (yJ (k := .i64) b (ff + r) _ cc ay xC cb zo zk zk) (hq := (zA (zC (zA (zC zG))))) (yH 21 zk (yR 21 rfl ?_ rfl))
    refine yW (ff + r) 0 cc ay z u (I3 u) a zj p cb zk zk rfl zk zk rfl ?_
    intro et cs be
    replace j := j.tg c be a
    replace c := Nat.le_trans c (be.size)
    replace a := cs
    have ed : (List.set ys (ff + r) u)[(ff + r)]? = some u := xA p
    refine zS ?_
    refine ⟨rfl, .inl zk, ?_⟩
    have d := yB (List.set ys (ff + r) u) (ff + (((2 * r) + 1) + 1)) (by (simp only [yX, List.length_set] at *; omega)); obtain ⟨d3, br⟩ := d
    have d := (a.rd).at (k := 1) zj br; obtain ⟨cn, a4, ca, ec⟩ := d
    refine mp 22 rfl (pt cn (a4 + (ff + (((2 * r) + 1) + 1)) * 1)) (.inl zk) (yJ (k := .i64) b (ff + (((2 * r) + 1) + 1)) _ cn a4 xC ca (by (simp only [yX, List.length_set] at *; omega)) zk zk) (hq := (zA (zC (zA (zC zG))))) (yH 23 zk (yR 23 rfl ?_ rfl))
    refine yW (ff + (((2 * r) + 1) + 1)) 0 cn a4 d3 z (I3 z) a zj br ca zk zk rfl zk zk rfl ?_
    intro ex cx bp
    replace j := j.tg c bp a
    replace c := Nat.le_trans c (bp.size)
    replace a := cx
    have ea : (List.set (List.set ys (ff + r) u) (ff + (((2 * r) + 1) + 1)) z)[(ff + (((2 * r) + 1) + 1))]? = some z := xA br
    have eS := xU p ac
    replace a := a.cast eS; clear eS
    refine zS ?_
    refine ⟨rfl, .inl zk, yT zk (zD (zY (zJ (zK (zS (zL ?_))))))⟩
    replace hc := ((((hc.trans2 (Ch.of_below ar) (fun _ h => h.elim)).trans2 (Ch.of_below ba) (fun _ h => h.elim)).trans2 (Ch.of_below bc) (fun _ h => h.elim)).trans2 (Ch.of_grown be) (fun k e => o k e)).trans2 (Ch.of_grown bp) (fun k e => o k e)
    refine zD ⟨_, zo, (((2 * r) + 1) + 1), (swp ys (ff + r) (ff + (((2 * r) + 1) + 1))), rfl, a0, zk, a, j, hc, c, zo, ?_, ?_, ?_⟩
    ·rw [yX]; exact i3
    ·exact .swap _ _ i4 zo zo zo
    exact i5.step (m := 2 * r + 1 + 1) zo zo zo zo (mx_m2 zo) zo
   intro dk
   have dx := el_le p ac dk
   refine xF false zk (yG ?_)
   intro er a6
   replace j := j.trans (a6.mono c)
   replace c := Nat.le_trans c (a6.size)
   refine zD (zT (yA (zI (zR (zI (zR (yK [] (hd := a0) ?_)))))))
   replace hc := (hc.trans2 (Ch.of_below ar) (fun _ h => h.elim)).trans2 (Ch.of_below a6) (fun _ h => h.elim)
   replace a := a.below a6
   exact ⟨ys, rfl, a, (by exact i4), (by exact i5.done (mx_2 zo zo)), hc⟩
  intro d1
  have d6 := el_le af bk d1
  refine qT (yG ?_)
  intro ep au
  replace j := j.trans (au.mono c)
  replace c := Nat.le_trans c (au.size)
  refine zD (zF (zW (zD (yC (yC (yP zk zk (zU (zU (zU (Lq_addN ff r zo zk zk ?_))))))))))
  have d := yB ys (ff + r) zo; obtain ⟨y, q⟩ := d
  replace a := a.below au
  have d := (a.rd).at (k := 1) zj q
  obtain ⟨c4, bt, dd, c1⟩ := d
  refine yM (k := .i64) b (ff + r) _ c4 bt xC dd zo zk zk (zX c4 (bt + (ff + r) * 1) (I3 y) zk zf (c1 0 _ rfl) (zU (zU (zU (Lq_addN ff ((2 * r) + 1) zo zk zk ?_)))))
  have d := (a.rd).at (k := 1) zj af
  obtain ⟨c0, b1, da, c5⟩ := d
  refine yM (k := .i64) b (ff + ((2 * r) + 1)) _ c0 b1 xC da zo zk zk (zX c0 (b1 + (ff + ((2 * r) + 1)) * 1) (I3 x7) zk zf (c5 0 _ rfl) (xE 134 [(I3 y), (I3 x7)] (.bool (decide (y < x7))) zg (fun wq hbq => qO y x7 wq ) (yL (decide (y < x7)) ?_ ?_)))
  ·intro dq
   have dl := el_lt q af dq
   refine xF true zk (yG ?_)
   intro ez a9
   replace j := j.trans (a9.mono c)
   replace c := Nat.le_trans c (a9.size)
   refine zD (zF (zW (zD (yC (xD 21 24 zk zk zk ?_)))))
   intro es a7
   replace j := j.trans (a7.mono c)
   replace c := Nat.le_trans c (a7.size)
   refine ⟨fun w => (Rd w encI32 b ys), ?_⟩
   replace a := (a.below a9).below a7
   refine mp 0 rfl b (.inr a.rd) zg (hq := (zA (zC (zA (zC zG))))) (mp 1 rfl (N6 ff) (.inr a.rd) zg (hq := (zA (zC (zA (zC zG))))) (mp 2 rfl (N6 r) (.inr a.rd) zg (hq := (zA (zC (zA (zC zG))))) (mp 3 rfl (N6 (ff + r)) (.inr a.rd) (fun w2 _ => wQ ff r zo zk zk w2) (hq := (zA (zC (zA (zC zG))))) (mp 4 rfl b (.inr a.rd) zg (hq := (zA (zC (zA (zC zG))))) (mp 5 rfl (N6 ff) (.inr a.rd) zg (hq := (zA (zC (zA (zC zG))))) (mp 6 rfl (N6 ((2 * r) + 1)) (.inr a.rd) zg (hq := (zA (zC (zA (zC zG))))) (mp 7 rfl (N6 (ff + ((2 * r) + 1))) (.inr a.rd) (fun w2 _ => wQ ff ((2 * r) + 1) zo zk zk w2) (hq := (zA (zC (zA (zC zG))))) (mp 8 rfl b (.inr a.rd) zg (hq := (zA (zC (zA (zC zG))))) (mp 9 rfl (N6 ff) (.inr a.rd) zg (hq := (zA (zC (zA (zC zG))))) (mp 10 rfl (N6 ((2 * r) + 1)) (.inr a.rd) zg (hq := (zA (zC (zA (zC zG))))) (mp 11 rfl (N6 (ff + ((2 * r) + 1))) (.inr a.rd) (fun w2 _ => wQ ff ((2 * r) + 1) zo zk zk w2) (hq := (zA (zC (zA (zC zG))))) ?_)))))))))))
   have d := (a.rd).at (k := 1) zj af; obtain ⟨b3, ao, bo, dn⟩ := d
   refine mp 12 rfl (pt b3 (ao + (ff + ((2 * r) + 1)) * 1)) (.inr a.rd) (yJ (k := .i64) b (ff + ((2 * r) + 1)) _ b3 ao xC bo zo zk zk) (hq := (zA (zC (zA (zC zG))))) (mt 13 [13, 20, 21, 22, 23] rfl (I3 x7) a.rd (yQ b3 (ao + (ff + ((2 * r) + 1)) * 1) (I3 x7) zk zf (fun w2 h2 => Rd.later (k := 1) h2 zj bo af 0 _ rfl)) (hq := (zA (zC (zA (zC zG))))) (mp 14 rfl b (.inr a.rd) zg (hq := (zA (zC (zA (zC zG))))) (mp 15 rfl (N6 ff) (.inr a.rd) zg (hq := (zA (zC (zA (zC zG))))) (mp 16 rfl (N6 r) (.inr a.rd) zg (hq := (zA (zC (zA (zC zG))))) (mp 17 rfl (N6 (ff + r)) (.inr a.rd) (fun w2 _ => wQ ff r zo zk zk w2) (hq := (zA (zC (zA (zC zG))))) ?_)))))
   have d := (a.rd).at (k := 1) zj q; obtain ⟨bv, ad, bu, dm⟩ := d
   refine mp 18 rfl (pt bv (ad + (ff + r) * 1)) (.inr a.rd) (yJ (k := .i64) b (ff + r) _ bv ad xC bu zo zk zk) (hq := (zA (zC (zA (zC zG))))) (mt 19 [19, 20, 21, 22, 23] rfl (I3 y) a.rd (yQ bv (ad + (ff + r) * 1) (I3 y) zk zf (fun w2 h2 => Rd.later (k := 1) h2 zj bu q 0 _ rfl)) (hq := (zA (zC (zA (zC zG))))) ?_)
   have d := (a.rd).at (k := 1) zj q; obtain ⟨bx, ae, bd, dt⟩ := d
   refine mp 20 rfl (pt bx (ae + (ff + r) * 1)) (.inr a.rd) (yJ (k := .i64) b (ff + r) _ bx ae xC bd zo zk zk) (hq := (zA (zC (zA (zC zG))))) (yH 21 zk (yR 21 rfl ?_ rfl))
   refine yW (ff + r) 0 bx ae y x7 (I3 x7) a zj q bd zk zk rfl zk zk rfl ?_
   intro eb ch av
   replace j := j.tg c av a
   replace c := Nat.le_trans c (av.size)
   replace a := ch
   have di : (List.set ys (ff + r) x7)[(ff + r)]? = some x7 := xA q
   refine zS ?_
   refine ⟨rfl, .inl zk, ?_⟩
   have d := yB (List.set ys (ff + r) x7) (ff + ((2 * r) + 1)) (by (simp only [yX, List.length_set] at *; omega)); obtain ⟨cv, a2⟩ := d
   have d := (a.rd).at (k := 1) zj a2; obtain ⟨bi, ap, bs, dj⟩ := d
   refine mp 22 rfl (pt bi (ap + (ff + ((2 * r) + 1)) * 1)) (.inl zk) (yJ (k := .i64) b (ff + ((2 * r) + 1)) _ bi ap xC bs (by (simp only [yX, List.length_set] at *; omega)) zk zk) (hq := (zA (zC (zA (zC zG))))) (yH 23 zk (yR 23 rfl ?_ rfl))
   refine yW (ff + ((2 * r) + 1)) 0 bi ap cv y (I3 y) a zj a2 bs zk zk rfl zk zk rfl ?_
   intro ee co a1
   replace j := j.tg c a1 a
   replace c := Nat.le_trans c (a1.size)
   replace a := co
   have dr : (List.set (List.set ys (ff + r) x7) (ff + ((2 * r) + 1)) y)[(ff + ((2 * r) + 1))]? = some y := xA a2
   have eS := xU q af
   replace a := a.cast eS; clear eS
   refine zS ?_
   refine ⟨rfl, .inl zk, yT zk (zD (zY (zJ (zK (zS (zL ?_))))))⟩
   replace hc := ((((hc.trans2 (Ch.of_below au) (fun _ h => h.elim)).trans2 (Ch.of_below a9) (fun _ h => h.elim)).trans2 (Ch.of_below a7) (fun _ h => h.elim)).trans2 (Ch.of_grown av) (fun k e => o k e)).trans2 (Ch.of_grown a1) (fun k e => o k e)
   refine zD ⟨_, zo, ((2 * r) + 1), (swp ys (ff + r) (ff + ((2 * r) + 1))), rfl, a0, zk, a, j, hc, c, zo, ?_, ?_, ?_⟩
   ·rw [yX]; exact i3
   ·exact .swap _ _ i4 zo zo zo
   exact i5.step (m := 2 * r + 1) zo zo zo zo (mx_m1b zo) zo
  intro c2
  have dh := el_le q af c2
  refine xF false zk (yG ?_)
  intro eo ai
  replace j := j.trans (ai.mono c)
  replace c := Nat.le_trans c (ai.size)
  refine zD (zT (yA (zI (zR (zI (zR (yK [] (hd := a0) ?_)))))))
  replace hc := (hc.trans2 (Ch.of_below au) (fun _ h => h.elim)).trans2 (Ch.of_below ai) (fun _ h => h.elim)
  replace a := a.below ai
  exact ⟨ys, rfl, a, (by exact i4), (by exact i5.done (mx_3 zo zo)), hc⟩
 intro c7
 replace c7 : hi ≤ (((2 * r) + 1) + 1) := by omega
 refine zU (qs (qs (qs (qs (qs (qs (qs (qs (qs (qs (qs (qs (qs (qs (qF (yG ?_))))))))))))))))
 intro em aa
 replace j := j.trans (aa.mono c)
 replace c := Nat.le_trans c (aa.size)
 refine zD (zF (zW (zD (yC (yC (yP zk zk (zU (zU (zU (Lq_addN ff r zo zk zk ?_))))))))))
 have d := yB ys (ff + r) zo; obtain ⟨n, l⟩ := d
 replace a := a.below aa
 have d := (a.rd).at (k := 1) zj l
 obtain ⟨b8, a8, cp, cm⟩ := d
 refine yM (k := .i64) b (ff + r) _ b8 a8 xC cp zo zk zk (zX b8 (a8 + (ff + r) * 1) (I3 n) zk zf (cm 0 _ rfl) (zU (zU (zU (Lq_addN ff ((2 * r) + 1) zo zk zk ?_)))))
 have d := yB ys (ff + ((2 * r) + 1)) zo; obtain ⟨i, t⟩ := d
 have d := (a.rd).at (k := 1) zj t
 obtain ⟨b6, bb, cf, cl⟩ := d
 refine yM (k := .i64) b (ff + ((2 * r) + 1)) _ b6 bb xC cf zo zk zk (zX b6 (bb + (ff + ((2 * r) + 1)) * 1) (I3 i) zk zf (cl 0 _ rfl) (xE 134 [(I3 n), (I3 i)] (.bool (decide (n < i))) zg (fun wq hbq => qO n i wq ) (yL (decide (n < i)) ?_ ?_)))
 ·intro cy
  have df := el_lt l t cy
  refine xF true zk (yG ?_)
  intro eh ak
  replace j := j.trans (ak.mono c)
  replace c := Nat.le_trans c (ak.size)
  refine zD (zF (zW (zD (yC (xD 21 24 zk zk zk ?_)))))
  intro el al
  replace j := j.trans (al.mono c)
  replace c := Nat.le_trans c (al.size)
  refine ⟨fun w => (Rd w encI32 b ys), ?_⟩
  replace a := (a.below ak).below al
  refine mp 0 rfl b (.inr a.rd) zg (hq := (zA (zC (zA (zC zG))))) (mp 1 rfl (N6 ff) (.inr a.rd) zg (hq := (zA (zC (zA (zC zG))))) (mp 2 rfl (N6 r) (.inr a.rd) zg (hq := (zA (zC (zA (zC zG))))) (mp 3 rfl (N6 (ff + r)) (.inr a.rd) (fun w2 _ => wQ ff r zo zk zk w2) (hq := (zA (zC (zA (zC zG))))) (mp 4 rfl b (.inr a.rd) zg (hq := (zA (zC (zA (zC zG))))) (mp 5 rfl (N6 ff) (.inr a.rd) zg (hq := (zA (zC (zA (zC zG))))) (mp 6 rfl (N6 ((2 * r) + 1)) (.inr a.rd) zg (hq := (zA (zC (zA (zC zG))))) (mp 7 rfl (N6 (ff + ((2 * r) + 1))) (.inr a.rd) (fun w2 _ => wQ ff ((2 * r) + 1) zo zk zk w2) (hq := (zA (zC (zA (zC zG))))) (mp 8 rfl b (.inr a.rd) zg (hq := (zA (zC (zA (zC zG))))) (mp 9 rfl (N6 ff) (.inr a.rd) zg (hq := (zA (zC (zA (zC zG))))) (mp 10 rfl (N6 ((2 * r) + 1)) (.inr a.rd) zg (hq := (zA (zC (zA (zC zG))))) (mp 11 rfl (N6 (ff + ((2 * r) + 1))) (.inr a.rd) (fun w2 _ => wQ ff ((2 * r) + 1) zo zk zk w2) (hq := (zA (zC (zA (zC zG))))) ?_)))))))))))
  have d := (a.rd).at (k := 1) zj t; obtain ⟨b2, an, bz, d2⟩ := d
  refine mp 12 rfl (pt b2 (an + (ff + ((2 * r) + 1)) * 1)) (.inr a.rd) (yJ (k := .i64) b (ff + ((2 * r) + 1)) _ b2 an xC bz zo zk zk) (hq := (zA (zC (zA (zC zG))))) (mt 13 [13, 20, 21, 22, 23] rfl (I3 i) a.rd (yQ b2 (an + (ff + ((2 * r) + 1)) * 1) (I3 i) zk zf (fun w2 h2 => Rd.later (k := 1) h2 zj bz t 0 _ rfl)) (hq := (zA (zC (zA (zC zG))))) (mp 14 rfl b (.inr a.rd) zg (hq := (zA (zC (zA (zC zG))))) (mp 15 rfl (N6 ff) (.inr a.rd) zg (hq := (zA (zC (zA (zC zG))))) (mp 16 rfl (N6 r) (.inr a.rd) zg (hq := (zA (zC (zA (zC zG))))) (mp 17 rfl (N6 (ff + r)) (.inr a.rd) (fun w2 _ => wQ ff r zo zk zk w2) (hq := (zA (zC (zA (zC zG))))) ?_)))))
  have d := (a.rd).at (k := 1) zj l; obtain ⟨bn, ag, bq, dz⟩ := d
  refine mp 18 rfl (pt bn (ag + (ff + r) * 1)) (.inr a.rd) (yJ (k := .i64) b (ff + r) _ bn ag xC bq zo zk zk) (hq := (zA (zC (zA (zC zG))))) (mt 19 [19, 20, 21, 22, 23] rfl (I3 n) a.rd (yQ bn (ag + (ff + r) * 1) (I3 n) zk zf (fun w2 h2 => Rd.later (k := 1) h2 zj bq l 0 _ rfl)) (hq := (zA (zC (zA (zC zG))))) ?_)
  have d := (a.rd).at (k := 1) zj l; obtain ⟨b0, ah, bf, dw⟩ := d
  refine mp 20 rfl (pt b0 (ah + (ff + r) * 1)) (.inr a.rd) (yJ (k := .i64) b (ff + r) _ b0 ah xC bf zo zk zk) (hq := (zA (zC (zA (zC zG))))) (yH 21 zk (yR 21 rfl ?_ rfl))
  refine yW (ff + r) 0 b0 ah n i (I3 i) a zj l bf zk zk rfl zk zk rfl ?_
  intro ef cg aw
  replace j := j.tg c aw a
  replace c := Nat.le_trans c (aw.size)
  replace a := cg
  have d8 : (List.set ys (ff + r) i)[(ff + r)]? = some i := xA l
  refine zS ?_
  refine ⟨rfl, .inl zk, ?_⟩
  have d := yB (List.set ys (ff + r) i) (ff + ((2 * r) + 1)) (by (simp only [yX, List.length_set] at *; omega)); obtain ⟨de, a3⟩ := d
  have d := (a.rd).at (k := 1) zj a3; obtain ⟨bh, am, b4, d0⟩ := d
  refine mp 22 rfl (pt bh (am + (ff + ((2 * r) + 1)) * 1)) (.inl zk) (yJ (k := .i64) b (ff + ((2 * r) + 1)) _ bh am xC b4 (by (simp only [yX, List.length_set] at *; omega)) zk zk) (hq := (zA (zC (zA (zC zG))))) (yH 23 zk (yR 23 rfl ?_ rfl))
  refine yW (ff + ((2 * r) + 1)) 0 bh am de n (I3 n) a zj a3 b4 zk zk rfl zk zk rfl ?_
  intro en cd ax
  replace j := j.tg c ax a
  replace c := Nat.le_trans c (ax.size)
  replace a := cd
  have dv : (List.set (List.set ys (ff + r) i) (ff + ((2 * r) + 1)) n)[(ff + ((2 * r) + 1))]? = some n := xA a3
  have eS := xU l t
  replace a := a.cast eS; clear eS
  refine zS ?_
  refine ⟨rfl, .inl zk, yT zk (zD (zY (zJ (zK (zS (zL ?_))))))⟩
  replace hc := ((((hc.trans2 (Ch.of_below aa) (fun _ h => h.elim)).trans2 (Ch.of_below ak) (fun _ h => h.elim)).trans2 (Ch.of_below al) (fun _ h => h.elim)).trans2 (Ch.of_grown aw) (fun k e => o k e)).trans2 (Ch.of_grown ax) (fun k e => o k e)
  refine zD ⟨_, zo, ((2 * r) + 1), (swp ys (ff + r) (ff + ((2 * r) + 1))), rfl, a0, zk, a, j, hc, c, zo, ?_, ?_, ?_⟩
  ·rw [yX]; exact i3
  ·exact .swap _ _ i4 zo zo zo
  exact i5.step (m := 2 * r + 1) zo zo zo zo (mx_m1 zo) zo
 intro c9
 have dg := el_le l t c9
 refine xF false zk (yG ?_)
 intro ei aj
 replace j := j.trans (aj.mono c)
 replace c := Nat.le_trans c (aj.size)
 refine zD (zT (yA (zI (zR (zI (zR (yK [] (hd := a0) ?_)))))))
 replace hc := (hc.trans2 (Ch.of_below aa) (fun _ h => h.elim)).trans2 (Ch.of_below aj) (fun _ h => h.elim)
 replace a := a.below aj
 exact ⟨ys, rfl, a, (by exact i4), (by exact i5.done (mx_1 zo zo)), hc⟩
theorem c_heap (B_ : Nat) (d : Value) (s : List (Int)) (a : Nat) (b : Nat) (w : World) (hs0 : B_ ≤ w.heap.size) (c : Row w B_ 21 1 encI32 d s) (h1 : a < b) (h2 : b ≤ s.length) (h3 : s.length ≤ 2305843009213693951) :
  Calls Tryz.prog 129 #[d, (N6 a), (N6 b)] w (Ret fun v w' => ∃ (ys : List (Int)), v = (.tuple #[]) ∧ Row w' B_ 21 1 encI32 d ys ∧ (Sw a b s ys) ∧ (Srt ys a b) ∧ Ch (fun k => Value.ownBlock d = some k) w w') := by
 refine wO 56 func129 rfl ?_
 have p := Below.refl B_ w
 have l : B_ ≤ (World.heap w).size := hs0
 have hc := Ch.refl (fun k => Value.ownBlock d = some k) w
 have j : ∀ g, Value.ownBlock d = some g → (World.heap w).size ≤ g ∨ (fun k => Value.ownBlock d = some k) g := fun g h => .inr h
 refine wR (zJ (zK (nR (zK (nR (zJ (zJ (zsb b a (zK (nW (wR (zJ (zsb (b - a) 1 (L_quoN ((b - a) - 1) 2 zo zo zk zk (zK (nQ (yF (xG (fun m s0 w0 => ∃ (z : Int) (ys : List Int), (m = (z + 1).toNat) ∧ (s0.ds = []) ∧ ([0, 6, 7, 8, 9].map s0.f = [d, (N6 a), (I6 0), (N6 (b - a)), (I6 z)]) ∧ (Row w0 B_ 21 1 encI32 d ys) ∧ (Below B_ w w0) ∧ (Ch (fun k => Value.ownBlock d = some k) w w0) ∧ (B_ ≤ w0.heap.size) ∧ (-1 ≤ z ∧ z ≤ (b : Int) - a) ∧ (ys.length = s.length) ∧ (Sw a b s ys) ∧ (HP ys a (z + 1).toNat (b - a))) _ ⟨(((((b - a) - 1) / 2) : Nat) : Int), s, rfl, zk, zk, c, p, hc, l, zo, rfl, .refl, (HP.none zo)⟩ ?_))))))))))))))))))
 rintro m1 s2 w3 ⟨z, ys, hm, ah, aw, c, p, hc, l, i1, i3, i4, i5⟩
 refine yZ aw (yC (wR (zJ (zGe .i64 z 0 ?_ ?_))))
 ·intro h4
  obtain ⟨n5, rfl⟩ := Int.eq_ofNat_of_zero_le h4
  refine nQ (zT (zW (zD (yC (yF (zY (zJ (zJ (zJ (zJ (zc (c_sift B_ d ys n5 (b - a) a _ l c zo zo zo (by exact HP.at i5 zo)) ?_)))))))))))
  rintro _ w7 ⟨a3, rfl, a5, bb, bc, av⟩
  replace p := av.below p l (fun k e => (World.ownsRow.lt c k e).1)
  replace l := Nat.le_trans l av.size
  replace c := a5
  refine zS (zL (zD (zY (zJ (wP ((n5 : Nat) : Int) 1 (((n5 : Nat) : Int) - 1) rfl zk zk (xM _ zh zh) (zK (zS ?_)))))))
  replace hc := hc.trans2 av (fun k e => j k e)
  refine zD ⟨_, zo, (((n5 : Nat) : Int) - 1), a3, rfl, ah, zk, c, p, hc, l, zo, ?_, ?_, ?_⟩
  ·exact (hf_sw1 za).trans i3
  ·exact i4.trans (Sw.mono za zo zo zo)
  exact HP.at za zo
 intro bm
 refine nQ (zF (yU (zV (zV (yI (zD (wR (zJ (zsb (b - a) 1 (zK (nQ (yF (xG (fun m s0 w0 => ∃ (z2 : Int) (zs : List Int), (m = (z2 + 1).toNat) ∧ (s0.ds = []) ∧ ([0, 6, 7, 10].map s0.f = [d, (N6 a), (I6 0), (I6 z2)]) ∧ (Row w0 B_ 21 1 encI32 d zs) ∧ (Below B_ w w0) ∧ (Ch (fun k => Value.ownBlock d = some k) w w0) ∧ (B_ ≤ w0.heap.size) ∧ (-1 ≤ z2 ∧ z2 < (b : Int) - a) ∧ (zs.length = s.length) ∧ (Sw a b s zs) ∧ (HS zs a (b - a) (z2 + 1).toNat ∧ HP zs a 0 (z2 + 1).toNat)) _ ⟨((((b - a) - 1) : Nat) : Int), ys, rfl, ah, zk, c, p, hc, l, zo, i3, i4, (heap_start i5 zo zo)⟩ ?_)))))))))))))
 rintro bq bn bo ⟨z2, zs, hm, ah, aw, c, p, hc, l, k1, k3, k4, k5⟩
 refine yZ aw (yC (wR (zJ (zGe .i64 z2 0 ?_ ?_))))
 ·intro a4
  obtain ⟨i, rfl⟩ := Int.eq_ofNat_of_zero_le a4
  refine nQ (zT (zW (zD (yC (yF (yC (xD 17 20 zk zk zk ?_)))))))
  intro bt aa
  replace p := p.trans (aa.mono l)
  replace l := Nat.le_trans l (aa.size)
  refine ⟨fun w => (Rd w encI32 d zs), ?_⟩
  replace c := c.below aa
  refine mp 0 rfl d (.inr c.rd) zg (hq := (zA (zC (zA (zA (zC zG)))))) (mp 1 rfl (N6 a) (.inr c.rd) zg (hq := (zA (zC (zA (zA (zC zG)))))) (mp 2 rfl d (.inr c.rd) zg (hq := (zA (zC (zA (zA (zC zG)))))) (mp 3 rfl (N6 a) (.inr c.rd) zg (hq := (zA (zC (zA (zA (zC zG)))))) (mp 4 rfl (N6 i) (.inr c.rd) zg (hq := (zA (zC (zA (zA (zC zG)))))) (mp 5 rfl (N6 (a + i)) (.inr c.rd) (fun w2 _ => wQ a i zo zk zk w2) (hq := (zA (zC (zA (zA (zC zG)))))) (mp 6 rfl d (.inr c.rd) zg (hq := (zA (zC (zA (zA (zC zG)))))) (mp 7 rfl (N6 a) (.inr c.rd) zg (hq := (zA (zC (zA (zA (zC zG)))))) (mp 8 rfl (N6 i) (.inr c.rd) zg (hq := (zA (zC (zA (zA (zC zG)))))) (mp 9 rfl (N6 (a + i)) (.inr c.rd) (fun w2 _ => wQ a i zo zk zk w2) (hq := (zA (zC (zA (zA (zC zG)))))) ?_)))))))))
  have hz := yB zs (a + i) zo; obtain ⟨o, ae⟩ := hz
  have hz := (c.rd).at (k := 1) zj ae; obtain ⟨aq, u, al, bk⟩ := hz
  refine mp 10 rfl (pt aq (u + (a + i) * 1)) (.inr c.rd) (yJ (k := .i64) d (a + i) _ aq u xC al zo zk zk) (hq := (zA (zC (zA (zA (zC zG)))))) (mt 11 [11, 16, 17, 18, 19] rfl (I3 o) c.rd (yQ aq (u + (a + i) * 1) (I3 o) zk zf (fun w2 h2 => Rd.later (k := 1) h2 zj al ae 0 _ rfl)) (hq := (zA (zC (zA (zA (zC zG)))))) (mp 12 rfl d (.inr c.rd) zg (hq := (zA (zC (zA (zA (zC zG)))))) (mp 13 rfl (N6 a) (.inr c.rd) zg (hq := (zA (zC (zA (zA (zC zG)))))) ?_)))
  have hz := yB zs a zo; obtain ⟨t, n⟩ := hz
  have hz := (c.rd).at (k := 1) zj n; obtain ⟨ar, q, am, be⟩ := hz
  refine mp 14 rfl (pt ar (q + a * 1)) (.inr c.rd) (yJ (k := .i64) d a _ ar q xC am zo zk zk) (hq := (zA (zC (zA (zA (zC zG)))))) (mt 15 [15, 16, 17, 18, 19] rfl (I3 t) c.rd (yQ ar (q + a * 1) (I3 t) zk zf (fun w2 h2 => Rd.later (k := 1) h2 zj am n 0 _ rfl)) (hq := (zA (zC (zA (zA (zC zG)))))) ?_)
  have hz := (c.rd).at (k := 1) zj n; obtain ⟨ap, y, ak, a8⟩ := hz
  refine mp 16 rfl (pt ap (y + a * 1)) (.inr c.rd) (yJ (k := .i64) d a _ ap y xC ak zo zk zk) (hq := (zA (zC (zA (zA (zC zG)))))) (yH 17 zk (yR 17 rfl ?_ rfl))
  refine yW a 0 ap y t o (I3 o) c zj n ak zk zk rfl zk zk rfl ?_
  intro br a0 ai
  replace p := p.tg l ai c
  replace l := Nat.le_trans l (ai.size)
  replace c := a0
  have bh : (List.set zs a o)[a]? = some o := xA n
  refine zS ?_
  refine ⟨rfl, .inl zk, ?_⟩
  have hz := yB (List.set zs a o) (a + i) (by (simp only [yX, List.length_set] at *; omega)); obtain ⟨a2, aj⟩ := hz
  have hz := (c.rd).at (k := 1) zj aj; obtain ⟨au, r, ao, bj⟩ := hz
  refine mp 18 rfl (pt au (r + (a + i) * 1)) (.inl zk) (yJ (k := .i64) d (a + i) _ au r xC ao (by (simp only [yX, List.length_set] at *; omega)) zk zk) (hq := (zA (zC (zA (zA (zC zG)))))) (yH 19 zk (yR 19 rfl ?_ rfl))
  refine yW (a + i) 0 au r a2 t (I3 t) c zj aj ao zk zk rfl zk zk rfl ?_
  intro bu ay ag
  replace p := p.tg l ag c
  replace l := Nat.le_trans l (ag.size)
  replace c := ay
  have a7 : (List.set (List.set zs a o) (a + i) t)[(a + i)]? = some t := xA aj
  have eS := xU n ae
  replace c := c.cast eS; clear eS
  refine zS ?_
  refine ⟨rfl, .inl zk, yT zk (zD (zY (zJ (zJ (zJ (zJ (zc (c_sift B_ d (swp zs a (a + i)) 0 i a _ l c (by (simp only [yX, List.length_set] at *; omega)) (by (simp only [yX, List.length_set] at *; omega)) zo (by exact heap_pop k5 zo zo zo)) ?_)))))))⟩
  replace hc := ((hc.trans2 (Ch.of_below aa) (fun _ h => h.elim)).trans2 (Ch.of_grown ai) (fun k e => j k e)).trans2 (Ch.of_grown ag) (fun k e => j k e)
  rintro _ bp ⟨ax, rfl, az, a9, bg, af⟩
  replace p := af.below p l (fun k e => (World.ownsRow.lt c k e).1)
  replace l := Nat.le_trans l af.size
  replace c := az
  refine zS (zL (zD (zY (zJ (wP ((i : Nat) : Int) 1 (((i : Nat) : Int) - 1) rfl zk zk (xM _ zh zh) (zK (zS ?_)))))))
  replace hc := hc.trans2 af (fun k e => j k e)
  refine zD ⟨_, zo, (((i : Nat) : Int) - 1), ax, rfl, ah, zk, c, p, hc, l, zo, ?_, ?_, ?_⟩
  ·exact (hf_sw1 za).trans ((yX _ _ _).trans k3)
  ·exact heap_sw k4 za zo
  exact heap_keep k5 za za zo zo zo
 intro bv
 refine nQ (zF (yU (zV (zV (yI (znrm [] (hd := ah) ?_))))))
 exact ⟨zs, rfl, c, (by exact k4), (by exact (heap_done zo k5 zo)), hc⟩
end Go.Proofs.YtddnhlobnembaaaGreatDoor
end

/- === Wcsx === -/
section
/- Walks, written by my program walk.py out of the specification csx.py: each theorem says what one function returns and that it leaves memory as it was. -/
namespace Go.Proofs.YtddnhlobnembaaaGreatDoor
open Go Go.RowKit Go.FK _root_.Go.Proofs.Tryz
set_option maxHeartbeats 4000000
set_option maxRecDepth 100000
theorem c_rev (B_ : Nat) (d : Value) (s : List (Int)) (a : Nat) (b : Nat) (w : World) (hs0 : B_ ≤ w.heap.size) (c : Row w B_ 21 1 encI32 d s) (h1 : a < b) (h2 : b ≤ s.length) (h3 : s.length ≤ 2305843009213693951) :
  Calls Tryz.prog 132 #[d, (N6 a), (N6 b)] w (Ret fun v w' => ∃ (ys : List (Int)), v = (.tuple #[]) ∧ Row w' B_ 21 1 encI32 d ys ∧ (Sw a b s ys) ∧ Ch (fun k => Value.ownBlock d = some k) w w') := by
 refine wO 32 func132 rfl ?_
 have hb := Below.refl B_ w
 have y : B_ ≤ (World.heap w).size := hs0
 have hc := Ch.refl (fun k => Value.ownBlock d = some k) w
 have t : ∀ g, Value.ownBlock d = some g → (World.heap w).size ≤ g ∨ (fun k => Value.ownBlock d = some k) g := fun g h => .inr h
 refine wR (zJ (zK (nR (zJ (zsb b 1 (zK (nQ (yF (xG (fun m s0 w0 => ∃ (i : Nat) (j : Nat) (ys : List Int), (m = j - i) ∧ (s0.ds = []) ∧ ([0, 6, 7].map s0.f = [d, (N6 i), (N6 j)]) ∧ (Row w0 B_ 21 1 encI32 d ys) ∧ (Below B_ w w0) ∧ (Ch (fun k => Value.ownBlock d = some k) w w0) ∧ (B_ ≤ w0.heap.size) ∧ (a ≤ i ∧ i ≤ j + 1 ∧ j < b) ∧ (ys.length = s.length) ∧ (Sw a b s ys)) _ ⟨a, (b - 1), s, rfl, zk, zk, c, hb, hc, y, zo, rfl, .refl⟩ ?_)))))))))
 rintro m1 s2 w3 ⟨i, j, ys, hm, ao, ar, c, hb, hc, y, i1, i3, i4⟩
 refine yZ ar (yC (wR (zJ (zJ (nLt i j ?_ ?_)))))
 ·intro h4
  refine nQ (zT (zW (zD (yF (yC (xD 13 16 zk zk zk ?_))))))
  intro w5 ad
  replace hb := hb.trans (ad.mono y)
  replace y := Nat.le_trans y (ad.size)
  refine ⟨fun w => (Rd w encI32 d ys), ?_⟩
  replace c := c.below ad
  refine mp 0 rfl d (.inr c.rd) zg (hq := (zA (zC (zA (zC zG))))) (mp 1 rfl (N6 i) (.inr c.rd) zg (hq := (zA (zC (zA (zC zG))))) (mp 2 rfl d (.inr c.rd) zg (hq := (zA (zC (zA (zC zG))))) (mp 3 rfl (N6 j) (.inr c.rd) zg (hq := (zA (zC (zA (zC zG))))) (mp 4 rfl d (.inr c.rd) zg (hq := (zA (zC (zA (zC zG))))) (mp 5 rfl (N6 j) (.inr c.rd) zg (hq := (zA (zC (zA (zC zG))))) ?_)))))
  have u := yB ys j zo; obtain ⟨x7, ak⟩ := u
  have u := (c.rd).at (k := 1) zj ak; obtain ⟨g9, p, ag, aw⟩ := u
  refine mp 6 rfl (pt g9 (p + j * 1)) (.inr c.rd) (yJ (k := .i64) d j _ g9 p xC ag zo zk zk) (hq := (zA (zC (zA (zC zG))))) (mt 7 [7, 12, 13, 14, 15] rfl (I3 x7) c.rd (yQ g9 (p + j * 1) (I3 x7) zk zf (fun w2 h2 => Rd.later (k := 1) h2 zj ag ak 0 _ rfl)) (hq := (zA (zC (zA (zC zG))))) (mp 8 rfl d (.inr c.rd) zg (hq := (zA (zC (zA (zC zG))))) (mp 9 rfl (N6 i) (.inr c.rd) zg (hq := (zA (zC (zA (zC zG))))) ?_)))
  have u := yB ys i zo; obtain ⟨q, l⟩ := u
  have u := (c.rd).at (k := 1) zj l; obtain ⟨aj, n, af, ay⟩ := u
  refine mp 10 rfl (pt aj (n + i * 1)) (.inr c.rd) (yJ (k := .i64) d i _ aj n xC af zo zk zk) (hq := (zA (zC (zA (zC zG))))) (mt 11 [11, 12, 13, 14, 15] rfl (I3 q) c.rd (yQ aj (n + i * 1) (I3 q) zk zf (fun w2 h2 => Rd.later (k := 1) h2 zj af l 0 _ rfl)) (hq := (zA (zC (zA (zC zG))))) ?_)
  have u := (c.rd).at (k := 1) zj l; obtain ⟨al, r, ae, az⟩ := u
  refine mp 12 rfl (pt al (r + i * 1)) (.inr c.rd) (yJ (k := .i64) d i _ al r xC ae zo zk zk) (hq := (zA (zC (zA (zC zG))))) (yH 13 zk (yR 13 rfl ?_ rfl))
  refine yW i 0 al r q x7 (I3 x7) c zj l ae zk zk rfl zk zk rfl ?_
  intro a6 ap aa
  replace hb := hb.tg y aa c
  replace y := Nat.le_trans y (aa.size)
  replace c := ap
  have a3 : (List.set ys i x7)[i]? = some x7 := xA l
  refine zS ?_
  refine ⟨rfl, .inl zk, ?_⟩
  have u := yB (List.set ys i x7) j (by (simp only [yX, List.length_set] at *; omega)); obtain ⟨av, z⟩ := u
  have u := (c.rd).at (k := 1) zj z; obtain ⟨am, o, ai, a0⟩ := u
  refine mp 14 rfl (pt am (o + j * 1)) (.inl zk) (yJ (k := .i64) d j _ am o xC ai (by (simp only [yX, List.length_set] at *; omega)) zk zk) (hq := (zA (zC (zA (zC zG))))) (yH 15 zk (yR 15 rfl ?_ rfl))
  refine yW j 0 am o av q (I3 q) c zj z ai zk zk rfl zk zk rfl ?_
  intro a4 aq ab
  replace hb := hb.tg y ab c
  replace y := Nat.le_trans y (ab.size)
  replace c := aq
  have a2 : (List.set (List.set ys i x7) j q)[j]? = some q := xA z
  have eS := xU l ak
  replace c := c.cast eS; clear eS
  refine zS ?_
  refine ⟨rfl, .inl zk, yT zk (zD (wR (zJ (xR i 1 (zK (nQ (zY (zJ (zsb j 1 (zK (zS (zL ?_))))))))))))⟩
  replace hc := ((hc.trans2 (Ch.of_below ad) (fun _ h => h.elim)).trans2 (Ch.of_grown aa) (fun k e => t k e)).trans2 (Ch.of_grown ab) (fun k e => t k e)
  refine zD ⟨_, zo, (i + 1), (j - 1), (swp ys i j), rfl, ao, zk, c, hb, hc, y, zo, ?_, ?_⟩
  ·rw [yX]; exact i3
  exact .swap _ _ i4 zo zo zo
 intro a5
 refine nQ (zF (yU (zV (zV (yI (znrm [] (hd := ao) ?_))))))
 exact ⟨ys, rfl, c, (by exact i4), hc⟩
theorem c_parteq (B_ : Nat) (d : Value) (s : List (Int)) (a : Nat) (b : Nat) (pv : Nat) (w : World) (hs0 : B_ ≤ w.heap.size) (c : Row w B_ 21 1 encI32 d s) (h1 : a < b) (h2 : b ≤ s.length) (h3 : s.length ≤ 2305843009213693951) (h4 : a ≤ pv ∧ pv < b) :
  Calls Tryz.prog 135 #[d, (N6 a), (N6 b), (N6 pv)] w (Ret fun v w' => ∃ (ys : List (Int)) (m : Nat), v = (N6 m) ∧ Row w' B_ 21 1 encI32 d ys ∧ (Sw a b s ys) ∧ (a < m ∧ m ≤ b) ∧ (Eqp ys a b m (m - 1)) ∧ (el ys a = el s pv) ∧ Ch (fun k => Value.ownBlock d = some k) w w') := by
 refine wO 84 func135 rfl ?_
 have r := Below.refl B_ w
 have q : B_ ≤ (World.heap w).size := hs0
 have u := Ch.refl (fun k => Value.ownBlock d = some k) w
 have t : ∀ g, Value.ownBlock d = some g → (World.heap w).size ≤ g ∨ (fun k => Value.ownBlock d = some k) g := fun g h => .inr h
 refine wR (zK (nW (xD 13 16 zk zk zk ?_)))
 intro w1 de
 replace r := r.trans (de.mono q)
 replace q := Nat.le_trans q (de.size)
 refine ⟨fun w => (Rd w encI32 d s), ?_⟩
 replace c := c.below de
 refine mp 0 rfl d (.inr c.rd) zg (hq := (zA zG)) (mp 1 rfl (N6 a) (.inr c.rd) zg (hq := (zA zG)) (mp 2 rfl d (.inr c.rd) zg (hq := (zA zG)) (mp 3 rfl (N6 pv) (.inr c.rd) zg (hq := (zA zG)) (mp 4 rfl d (.inr c.rd) zg (hq := (zA zG)) (mp 5 rfl (N6 pv) (.inr c.rd) zg (hq := (zA zG)) ?_)))))
 have p := yB s pv zo; obtain ⟨x3, dr⟩ := p
 have p := (c.rd).at (k := 1) zj dr; obtain ⟨g5, c7, ek, g7⟩ := p
 refine mp 6 rfl (pt g5 (c7 + pv * 1)) (.inr c.rd) (yJ (k := .i64) d pv _ g5 c7 xC ek zo zk zk) (hq := (zA zG)) (mt 7 [7, 12, 13, 14, 15] rfl (I3 x3) c.rd (yQ g5 (c7 + pv * 1) (I3 x3) zk zf (fun w2 h2 => Rd.later (k := 1) h2 zj ek dr 0 _ rfl)) (hq := (zA zG)) (mp 8 rfl d (.inr c.rd) zg (hq := (zA zG)) (mp 9 rfl (N6 a) (.inr c.rd) zg (hq := (zA zG)) ?_)))
 have p := yB s a zo; obtain ⟨x9, ao⟩ := p
 have p := (c.rd).at (k := 1) zj ao; obtain ⟨dy, bz, dl, gh⟩ := p
 refine mp 10 rfl (pt dy (bz + a * 1)) (.inr c.rd) (yJ (k := .i64) d a _ dy bz xC dl zo zk zk) (hq := (zA zG)) (mt 11 [11, 12, 13, 14, 15] rfl (I3 x9) c.rd (yQ dy (bz + a * 1) (I3 x9) zk zf (fun w2 h2 => Rd.later (k := 1) h2 zj dl ao 0 _ rfl)) (hq := (zA zG)) ?_)
 have p := (c.rd).at (k := 1) zj ao; obtain ⟨d4, bh, dn, gy⟩ := p
 refine mp 12 rfl (pt d4 (bh + a * 1)) (.inr c.rd) (yJ (k := .i64) d a _ d4 bh xC dn zo zk zk) (hq := (zA zG)) (yH 13 zk (yR 13 rfl ?_ rfl))
 refine yW a 0 d4 bh x9 x3 (I3 x3) c zj ao dn zk zk rfl zk zk rfl ?_
 intro hf eu cz
 replace r := r.tg q cz c
 replace q := Nat.le_trans q (cz.size)
 replace c := eu
 have gl : (List.set s a x3)[a]? = some x3 := xA ao
 refine zS ?_
 refine ⟨rfl, .inl zk, ?_⟩
 have p := yB (List.set s a x3) pv (by (simp only [yX, List.length_set] at *; omega)); obtain ⟨fi, dd⟩ := p
 have p := (c.rd).at (k := 1) zj dd; obtain ⟨d0, bq, dm, gf⟩ := p
 refine mp 14 rfl (pt d0 (bq + pv * 1)) (.inl zk) (yJ (k := .i64) d pv _ d0 bq xC dm (by (simp only [yX, List.length_set] at *; omega)) zk zk) (hq := (zA zG)) (yH 15 zk (yR 15 rfl ?_ rfl))
 refine yW pv 0 d0 bq fi x9 (I3 x9) c zj dd dm zk zk rfl zk zk rfl ?_
 intro ht em b9
 replace r := r.tg q b9 c
 replace q := Nat.le_trans q (b9.size)
 replace c := em
 have gk : (List.set (List.set s a x3) pv x9)[pv]? = some x9 := xA dd
 have eS := xU ao dr
 replace c := c.cast eS; clear eS
 refine zS ?_
 refine ⟨rfl, .inl zk, yT zk (zD (wR (zJ (xR a 1 (zJ (zsb b 1 (zK (zK (nW (yF ?_))))))))))⟩
 replace u := ((u.trans2 (Ch.of_below de) (fun _ h => h.elim)).trans2 (Ch.of_grown cz) (fun k e => t k e)).trans2 (Ch.of_grown b9) (fun k e => t k e)
 refine xG (fun m s0 w0 => ∃ (i : Nat) (j : Nat) (ys : List Int), (m = j + 1 - i) ∧ (s0.ds = []) ∧ ([0, 1, 8, 9, 10].map s0.f = [d, (N6 a), (I6 0), (N6 i), (N6 j)]) ∧ (Row w0 B_ 21 1 encI32 d ys) ∧ (Below B_ w w0) ∧ (Ch (fun k => Value.ownBlock d = some k) w w0) ∧ (B_ ≤ w0.heap.size) ∧ (a < i ∧ i ≤ j + 1 ∧ j < b) ∧ (ys.length = s.length) ∧ (Sw a b s ys) ∧ (Eqp ys a b i j) ∧ (el ys a = el s pv)) _ ⟨(a + 1), (b - 1), (swp s a pv), rfl, zk, zk, c, r, u, q, zo, (yX _ _ _), (.swap _ _ .refl zo zo zo), Eqp.start, (piv_start zo zo)⟩ ?_
 rintro he hi g9 ⟨i, j, ys, hm, z, bv, c, r, u, q, i1, i3, i4, i5, i6⟩
 refine yZ bv (yF (yC (yF (xG (fun m s0 w0 => ∃ (n : Nat), (m = j + 1 - n) ∧ (s0.ds = []) ∧ ([0, 1, 8, 10, 9].map s0.f = [d, (N6 a), (I6 0), (N6 j), (N6 n)]) ∧ (Row w0 B_ 21 1 encI32 d ys) ∧ (Below B_ w w0) ∧ (Ch (fun k => Value.ownBlock d = some k) w w0) ∧ (B_ ≤ w0.heap.size) ∧ (a < n ∧ n ≤ j + 1 ∧ i ≤ n) ∧ (Eqp ys a b n j)) _ ⟨i, rfl, z, zk, c, r, u, q, zo, i5⟩ ?_))))
 rintro hp hr hh ⟨n, hm, z, bv, c, r, u, q, q1, q5⟩
 refine yZ bv (yC (yC (yP zk zk (zU (zU (xB .i64 ((n : Nat) : Int) ((j : Nat) : Int) (n ≤ j) rfl (qV n j) zk zk ?_ ?_))))))
 ·intro e7
  replace e7 : n ≤ j := by omega
  refine zU (qw (zU (qw (zU (qw ?_)))))
  have p := yB ys a zo; obtain ⟨ci, c9⟩ := p
  have p := (c.rd).at (k := 1) zj c9
  obtain ⟨ev, cv, e1, es⟩ := p
  refine yM (k := .i64) d a _ ev cv xC e1 zo zk zk (qw (zX ev (cv + a * 1) (I3 ci) zk zf (es 0 _ rfl) (qw (zU (qw (zU (qw ?_)))))))
  have p := yB ys n zo; obtain ⟨c8, cu⟩ := p
  have p := (c.rd).at (k := 1) zj cu
  obtain ⟨ex, c5, eg, ee⟩ := p
  refine yM (k := .i64) d n _ ex c5 xC eg zo zk zk (qw (zX ex (c5 + n * 1) (I3 c8) zk zf (ee 0 _ rfl) (qw (xE 134 [(I3 ci), (I3 c8)] (.bool (decide (ci < c8))) zg (fun wq hbq => qO ci c8 wq ) (yL (decide (ci < c8)) ?_ ?_)))))
  ·intro fn
   have fz := el_lt c9 cu fn
   refine qw (xF true zk (qT (yG ?_)))
   intro hn b4
   replace r := r.trans (b4.mono q)
   replace q := Nat.le_trans q (b4.size)
   refine zD (zF (yU (zV (zV (yI (zD (yC (yF ?_))))))))
   replace u := u.trans2 (Ch.of_below b4) (fun _ h => h.elim)
   replace c := c.below b4
   refine xG (fun m s0 w0 => ∃ (o : Nat), (m = o + 1 - n) ∧ (s0.ds = []) ∧ ([0, 1, 8, 9, 10].map s0.f = [d, (N6 a), (I6 0), (N6 n), (N6 o)]) ∧ (Row w0 B_ 21 1 encI32 d ys) ∧ (Below B_ w w0) ∧ (Ch (fun k => Value.ownBlock d = some k) w w0) ∧ (B_ ≤ w0.heap.size) ∧ (n ≤ o + 1 ∧ o < b ∧ o ≤ j) ∧ (Eqp ys a b n o)) _ ⟨j, rfl, z, zk, c, r, u, q, zo, q5⟩ ?_
   rintro hj g4 g6 ⟨o, hm, z, bv, c, r, u, q, r1, r5⟩
   refine yZ bv (yC (yC (yP zk zk (zU (zU (xB .i64 ((n : Nat) : Int) ((o : Nat) : Int) (n ≤ o) rfl (qV n o) zk zk ?_ ?_))))))
   ·intro fq
    replace fq : n ≤ o := by omega
    refine zU (qw (zU (qw (zU (qw ?_)))))
    have p := yB ys a zo; obtain ⟨cq, cf⟩ := p
    have p := (c.rd).at (k := 1) zj cf
    obtain ⟨ec, cj, er, ey⟩ := p
    refine yM (k := .i64) d a _ ec cj xC er zo zk zk (qw (zX ec (cj + a * 1) (I3 cq) zk zf (ey 0 _ rfl) (qw (zU (qw (zU (qw ?_)))))))
    have p := yB ys o zo; obtain ⟨ac, an⟩ := p
    have p := (c.rd).at (k := 1) zj an
    obtain ⟨eh, c2, ei, en⟩ := p
    refine yM (k := .i64) d o _ eh c2 xC ei zo zk zk (qw (zX eh (c2 + o * 1) (I3 ac) zk zf (en 0 _ rfl) (qw (xE 134 [(I3 cq), (I3 ac)] (.bool (decide (cq < ac))) zg (fun wq hbq => qO cq ac wq ) (yL (decide (cq < ac)) ?_ ?_)))))
    ·intro e9
     have fp := el_lt cf an e9
     refine qT (yG ?_)
     intro hl b2
     replace r := r.trans (b2.mono q)
     replace q := Nat.le_trans q (b2.size)
     refine zD (zT (zW (zD (yF (zY (zJ (zsb o 1 (zK (zS (zL ?_))))))))))
     replace u := u.trans2 (Ch.of_below b2) (fun _ h => h.elim)
     replace c := c.below b2
     exact zD ⟨_, zo, (o - 1), rfl, z, zk, c, r, u, q, zo, r5.down zo zo⟩
    intro fw
    have ff := el_le cf an fw
    refine qT (yG ?_)
    intro g8 aq
    replace r := r.trans (aq.mono q)
    replace q := Nat.le_trans q (aq.size)
    refine zD (zF (yU (zV (zV (yI (zD (yC (wR (zJ (zJ (nGt n o ?_ ?_)))))))))))
    ·intro hg
     refine nQ (zT (yU (zV (zxo (zV (yI (zD (wR (zJ (zK (nQ (yA (yK [(N6 n)] (hd := z) ?_)))))))))))))
     replace u := u.trans2 (Ch.of_below aq) (fun _ h => h.elim)
     replace c := c.below aq
     exact ⟨ys, n, rfl, c, (by exact i4), zo, (by exact r5.at zo), (by exact i6), u⟩
    intro ha
    refine nQ (zF (zW (zD (yC (xD 13 16 zk zk zk ?_)))))
    intro ho b5
    replace r := r.trans (b5.mono q)
    replace q := Nat.le_trans q (b5.size)
    refine ⟨fun w => (Rd w encI32 d ys), ?_⟩
    replace c := (c.below aq).below b5
    refine mp 0 rfl d (.inr c.rd) zg (hq := (zA (zC (zA (zC (zA zG)))))) (mp 1 rfl (N6 n) (.inr c.rd) zg (hq := (zA (zC (zA (zC (zA zG)))))) (mp 2 rfl d (.inr c.rd) zg (hq := (zA (zC (zA (zC (zA zG)))))) (mp 3 rfl (N6 o) (.inr c.rd) zg (hq := (zA (zC (zA (zC (zA zG)))))) (mp 4 rfl d (.inr c.rd) zg (hq := (zA (zC (zA (zC (zA zG)))))) (mp 5 rfl (N6 o) (.inr c.rd) zg (hq := (zA (zC (zA (zC (zA zG)))))) ?_)))))
    have p := (c.rd).at (k := 1) zj an; obtain ⟨d6, bo, di, gq⟩ := p
    refine mp 6 rfl (pt d6 (bo + o * 1)) (.inr c.rd) (yJ (k := .i64) d o _ d6 bo xC di zo zk zk) (hq := (zA (zC (zA (zC (zA zG)))))) (mt 7 [7, 12, 13, 14, 15] rfl (I3 ac) c.rd (yQ d6 (bo + o * 1) (I3 ac) zk zf (fun w2 h2 => Rd.later (k := 1) h2 zj di an 0 _ rfl)) (hq := (zA (zC (zA (zC (zA zG)))))) (mp 8 rfl d (.inr c.rd) zg (hq := (zA (zC (zA (zC (zA zG)))))) (mp 9 rfl (N6 n) (.inr c.rd) zg (hq := (zA (zC (zA (zC (zA zG)))))) ?_)))
    have p := yB ys n zo; obtain ⟨bl, ap⟩ := p
    have p := (c.rd).at (k := 1) zj ap; obtain ⟨dw, bw, dg, f7⟩ := p
    refine mp 10 rfl (pt dw (bw + n * 1)) (.inr c.rd) (yJ (k := .i64) d n _ dw bw xC dg zo zk zk) (hq := (zA (zC (zA (zC (zA zG)))))) (mt 11 [11, 12, 13, 14, 15] rfl (I3 bl) c.rd (yQ dw (bw + n * 1) (I3 bl) zk zf (fun w2 h2 => Rd.later (k := 1) h2 zj dg ap 0 _ rfl)) (hq := (zA (zC (zA (zC (zA zG)))))) ?_)
    have p := (c.rd).at (k := 1) zj ap; obtain ⟨ch, a4, cl, fa⟩ := p
    refine mp 12 rfl (pt ch (a4 + n * 1)) (.inr c.rd) (yJ (k := .i64) d n _ ch a4 xC cl zo zk zk) (hq := (zA (zC (zA (zC (zA zG)))))) (yH 13 zk (yR 13 rfl ?_ rfl))
    refine yW n 0 ch a4 bl ac (I3 ac) c zj ap cl zk zk rfl zk zk rfl ?_
    intro g0 ea bp
    replace r := r.tg q bp c
    replace q := Nat.le_trans q (bp.size)
    replace c := ea
    have fl : (List.set ys n ac)[n]? = some ac := xA ap
    refine zS ?_
    refine ⟨rfl, .inl zk, ?_⟩
    have p := yB (List.set ys n ac) o (by (simp only [yX, List.length_set] at *; omega)); obtain ⟨e2, bi⟩ := p
    have p := (c.rd).at (k := 1) zj bi; obtain ⟨dc, az, c4, fk⟩ := p
    refine mp 14 rfl (pt dc (az + o * 1)) (.inl zk) (yJ (k := .i64) d o _ dc az xC c4 (by (simp only [yX, List.length_set] at *; omega)) zk zk) (hq := (zA (zC (zA (zC (zA zG)))))) (yH 15 zk (yR 15 rfl ?_ rfl))
    refine yW o 0 dc az e2 bl (I3 bl) c zj bi c4 zk zk rfl zk zk rfl ?_
    intro ga d2 bt
    replace r := r.tg q bt c
    replace q := Nat.le_trans q (bt.size)
    replace c := d2
    have fg : (List.set (List.set ys n ac) o bl)[o]? = some bl := xA bi
    have eS := xU ap an
    replace c := c.cast eS; clear eS
    refine zS ?_
    refine ⟨rfl, .inl zk, yT zk (zD (wR (zJ (xR n 1 (zK (nQ (zY (zJ (zsb o 1 (zK (zS (zL ?_))))))))))))⟩
    have d9 : n < o := by exact lt_of_el (l := ys) (a := a) zo zo zo
    replace u := (((u.trans2 (Ch.of_below aq) (fun _ h => h.elim)).trans2 (Ch.of_below b5) (fun _ h => h.elim)).trans2 (Ch.of_grown bp) (fun k e => t k e)).trans2 (Ch.of_grown bt) (fun k e => t k e)
    refine zD ⟨_, zo, (n + 1), (o - 1), (swp ys n o), rfl, z, zk, c, r, u, q, zo, ?_, ?_, ?_, ?_⟩
    ·rw [yX]; exact i3
    ·exact .swap _ _ i4 zo zo zo
    ·exact r5.swap zo (lt_of_el (l := ys) (a := a) zo zo zo) zo zo zo zo
    exact piv_keep i6 zo zo
   intro ew
   replace ew : o < n := by omega
   refine zU (qs (qs (qs (qs (qs (qs (qs (qs (qs (qF (yG ?_)))))))))))
   intro gc ab
   replace r := r.trans (ab.mono q)
   replace q := Nat.le_trans q (ab.size)
   refine zD (zF (yU (zV (zV (yI (zD (yC (wR (zJ (zJ (nGt n o ?_ ?_)))))))))))
   ·intro gn
    refine nQ (zT (yU (zV (zxo (zV (yI (zD (wR (zJ (zK (nQ (yA (yK [(N6 n)] (hd := z) ?_)))))))))))))
    replace u := u.trans2 (Ch.of_below ab) (fun _ h => h.elim)
    replace c := c.below ab
    exact ⟨ys, n, rfl, c, (by exact i4), zo, (by exact r5.at zo), (by exact i6), u⟩
   intro g3
   refine nQ (zF (zW (zD (yC (xD 13 16 zk zk zk ?_)))))
   intro f8 av
   replace r := r.trans (av.mono q)
   replace q := Nat.le_trans q (av.size)
   refine ⟨fun w => (Rd w encI32 d ys), ?_⟩
   replace c := (c.below ab).below av
   refine mp 0 rfl d (.inr c.rd) zg (hq := (zA (zC (zA (zC (zA zG)))))) (mp 1 rfl (N6 n) (.inr c.rd) zg (hq := (zA (zC (zA (zC (zA zG)))))) (mp 2 rfl d (.inr c.rd) zg (hq := (zA (zC (zA (zC (zA zG)))))) (mp 3 rfl (N6 o) (.inr c.rd) zg (hq := (zA (zC (zA (zC (zA zG)))))) (mp 4 rfl d (.inr c.rd) zg (hq := (zA (zC (zA (zC (zA zG)))))) (mp 5 rfl (N6 o) (.inr c.rd) zg (hq := (zA (zC (zA (zC (zA zG)))))) ?_)))))
   have p := yB ys o zo; obtain ⟨aj, bm⟩ := p
   have p := (c.rd).at (k := 1) zj bm; obtain ⟨cm, bb, c6, fu⟩ := p
   refine mp 6 rfl (pt cm (bb + o * 1)) (.inr c.rd) (yJ (k := .i64) d o _ cm bb xC c6 zo zk zk) (hq := (zA (zC (zA (zC (zA zG)))))) (mt 7 [7, 12, 13, 14, 15] rfl (I3 aj) c.rd (yQ cm (bb + o * 1) (I3 aj) zk zf (fun w2 h2 => Rd.later (k := 1) h2 zj c6 bm 0 _ rfl)) (hq := (zA (zC (zA (zC (zA zG)))))) (mp 8 rfl d (.inr c.rd) zg (hq := (zA (zC (zA (zC (zA zG)))))) (mp 9 rfl (N6 n) (.inr c.rd) zg (hq := (zA (zC (zA (zC (zA zG)))))) ?_)))
   have p := yB ys n zo; obtain ⟨am, ae⟩ := p
   have p := (c.rd).at (k := 1) zj ae; obtain ⟨cp, ay, cg, f4⟩ := p
   refine mp 10 rfl (pt cp (ay + n * 1)) (.inr c.rd) (yJ (k := .i64) d n _ cp ay xC cg zo zk zk) (hq := (zA (zC (zA (zC (zA zG)))))) (mt 11 [11, 12, 13, 14, 15] rfl (I3 am) c.rd (yQ cp (ay + n * 1) (I3 am) zk zf (fun w2 h2 => Rd.later (k := 1) h2 zj cg ae 0 _ rfl)) (hq := (zA (zC (zA (zC (zA zG)))))) ?_)
   have p := (c.rd).at (k := 1) zj ae; obtain ⟨ca, ar, cw, fh⟩ := p
   refine mp 12 rfl (pt ca (ar + n * 1)) (.inr c.rd) (yJ (k := .i64) d n _ ca ar xC cw zo zk zk) (hq := (zA (zC (zA (zC (zA zG)))))) (yH 13 zk (yR 13 rfl ?_ rfl))
   refine yW n 0 ca ar am aj (I3 aj) c zj ae cw zk zk rfl zk zk rfl ?_
   intro gd dq b0
   replace r := r.tg q b0 c
   replace q := Nat.le_trans q (b0.size)
   replace c := dq
   have e8 : (List.set ys n aj)[n]? = some aj := xA ae
   refine zS ?_
   refine ⟨rfl, .inl zk, ?_⟩
   have p := yB (List.set ys n aj) o zo; obtain ⟨ez, bu⟩ := p
   have p := (c.rd).at (k := 1) zj bu; obtain ⟨cc, a0, cx, fe⟩ := p
   refine mp 14 rfl (pt cc (a0 + o * 1)) (.inl zk) (yJ (k := .i64) d o _ cc a0 xC cx zo zk zk) (hq := (zA (zC (zA (zC (zA zG)))))) (yH 15 zk (yR 15 rfl ?_ rfl))
   refine yW o 0 cc a0 ez am (I3 am) c zj bu cx zk zk rfl zk zk rfl ?_
   intro go d7 br
   replace r := r.tg q br c
   replace q := Nat.le_trans q (br.size)
   replace c := d7
   have ft : (List.set (List.set ys n aj) o am)[o]? = some am := xA bu
   have eS := xU ae bm
   replace c := c.cast eS; clear eS
   refine zS ?_
   refine ⟨rfl, .inl zk, yT zk (zD (wR (zJ (xR n 1 (zK (nQ (zY (zJ (zsb o 1 (zK (zS (zL ?_))))))))))))⟩
   have d9 : n < o := by exact lt_of_el (l := ys) (a := a) zo zo zo
   replace u := (((u.trans2 (Ch.of_below ab) (fun _ h => h.elim)).trans2 (Ch.of_below av) (fun _ h => h.elim)).trans2 (Ch.of_grown b0) (fun k e => t k e)).trans2 (Ch.of_grown br) (fun k e => t k e)
   refine zD ⟨_, zo, (n + 1), (o - 1), (swp ys n o), rfl, z, zk, c, r, u, q, zo, ?_, ?_, ?_, ?_⟩
   ·rw [yX]; exact i3
   ·exact .swap _ _ i4 zo zo zo
   ·exact r5.swap zo (lt_of_el (l := ys) (a := a) zo zo zo) zo zo zo zo
   exact piv_keep i6 zo zo
  intro et
  have e4 := el_le c9 cu et
  refine qw (xF false zk (qT (yG ?_)))
  intro gi a3
  replace r := r.trans (a3.mono q)
  replace q := Nat.le_trans q (a3.size)
  refine zD (zT (zW (zD (yF (zY (zJ (xR n 1 (zK (zS (zL ?_))))))))))
  replace u := u.trans2 (Ch.of_below a3) (fun _ h => h.elim)
  replace c := c.below a3
  exact zD ⟨_, zo, (n + 1), rfl, z, zk, c, r, u, q, zo, q5.up zo⟩
 intro ej
 replace ej : j < n := by omega
 refine zU (qs (qs (qs (qs (qs (qs (qs (qs (qs (qs (qF (yG ?_))))))))))))
 intro gb ba
 replace r := r.trans (ba.mono q)
 replace q := Nat.le_trans q (ba.size)
 refine zD (zF (yU (zV (zV (yI (zD (yC (yF ?_))))))))
 replace u := u.trans2 (Ch.of_below ba) (fun _ h => h.elim)
 replace c := c.below ba
 refine xG (fun m s0 w0 => ∃ (o : Nat), (m = o + 1 - n) ∧ (s0.ds = []) ∧ ([0, 1, 8, 9, 10].map s0.f = [d, (N6 a), (I6 0), (N6 n), (N6 o)]) ∧ (Row w0 B_ 21 1 encI32 d ys) ∧ (Below B_ w w0) ∧ (Ch (fun k => Value.ownBlock d = some k) w w0) ∧ (B_ ≤ w0.heap.size) ∧ (n ≤ o + 1 ∧ o < b ∧ o ≤ j) ∧ (Eqp ys a b n o)) _ ⟨j, rfl, z, zk, c, r, u, q, zo, q5⟩ ?_
 rintro gr gw f9 ⟨o, hm, z, bv, c, r, u, q, r1, r5⟩
 refine yZ bv (yC (yC (yP zk zk (zU (zU (xB .i64 ((n : Nat) : Int) ((o : Nat) : Int) (n ≤ o) rfl (qV n o) zk zk ?_ ?_))))))
 ·intro eo
  replace eo : n ≤ o := by omega
  refine zU (qw (zU (qw (zU (qw ?_)))))
  have p := yB ys a zo; obtain ⟨bd, bn⟩ := p
  have p := (c.rd).at (k := 1) zj bn
  obtain ⟨dp, b3, dt, dz⟩ := p
  refine yM (k := .i64) d a _ dp b3 xC dt zo zk zk (qw (zX dp (b3 + a * 1) (I3 bd) zk zf (dz 0 _ rfl) (qw (zU (qw (zU (qw ?_)))))))
  have p := yB ys o zo; obtain ⟨y, ah⟩ := p
  have p := (c.rd).at (k := 1) zj ah
  obtain ⟨dj, b6, du, dx⟩ := p
  refine yM (k := .i64) d o _ dj b6 xC du zo zk zk (qw (zX dj (b6 + o * 1) (I3 y) zk zf (dx 0 _ rfl) (qw (xE 134 [(I3 bd), (I3 y)] (.bool (decide (bd < y))) zg (fun wq hbq => qO bd y wq ) (yL (decide (bd < y)) ?_ ?_)))))
  ·intro ef
   have e5 := el_lt bn ah ef
   refine qT (yG ?_)
   intro g1 a9
   replace r := r.trans (a9.mono q)
   replace q := Nat.le_trans q (a9.size)
   refine zD (zT (zW (zD (yF (zY (zJ (zsb o 1 (zK (zS (zL ?_))))))))))
   replace u := u.trans2 (Ch.of_below a9) (fun _ h => h.elim)
   replace c := c.below a9
   exact zD ⟨_, zo, (o - 1), rfl, z, zk, c, r, u, q, zo, r5.down zo zo⟩
  intro ed
  have e6 := el_le bn ah ed
  refine qT (yG ?_)
  intro f6 ad
  replace r := r.trans (ad.mono q)
  replace q := Nat.le_trans q (ad.size)
  refine zD (zF (yU (zV (zV (yI (zD (yC (wR (zJ (zJ (nGt n o ?_ ?_)))))))))))
  ·intro gu
   refine nQ (zT (yU (zV (zxo (zV (yI (zD (wR (zJ (zK (nQ (yA (yK [(N6 n)] (hd := z) ?_)))))))))))))
   replace u := u.trans2 (Ch.of_below ad) (fun _ h => h.elim)
   replace c := c.below ad
   exact ⟨ys, n, rfl, c, (by exact i4), zo, (by exact r5.at zo), (by exact i6), u⟩
  intro f5
  refine nQ (zF (zW (zD (yC (xD 13 16 zk zk zk ?_)))))
  intro gp a7
  replace r := r.trans (a7.mono q)
  replace q := Nat.le_trans q (a7.size)
  refine ⟨fun w => (Rd w encI32 d ys), ?_⟩
  replace c := (c.below ad).below a7
  refine mp 0 rfl d (.inr c.rd) zg (hq := (zA (zC (zA (zC (zA zG)))))) (mp 1 rfl (N6 n) (.inr c.rd) zg (hq := (zA (zC (zA (zC (zA zG)))))) (mp 2 rfl d (.inr c.rd) zg (hq := (zA (zC (zA (zC (zA zG)))))) (mp 3 rfl (N6 o) (.inr c.rd) zg (hq := (zA (zC (zA (zC (zA zG)))))) (mp 4 rfl d (.inr c.rd) zg (hq := (zA (zC (zA (zC (zA zG)))))) (mp 5 rfl (N6 o) (.inr c.rd) zg (hq := (zA (zC (zA (zC (zA zG)))))) ?_)))))
  have p := (c.rd).at (k := 1) zj ah; obtain ⟨c0, au, cn, fj⟩ := p
  refine mp 6 rfl (pt c0 (au + o * 1)) (.inr c.rd) (yJ (k := .i64) d o _ c0 au xC cn zo zk zk) (hq := (zA (zC (zA (zC (zA zG)))))) (mt 7 [7, 12, 13, 14, 15] rfl (I3 y) c.rd (yQ c0 (au + o * 1) (I3 y) zk zf (fun w2 h2 => Rd.later (k := 1) h2 zj cn ah 0 _ rfl)) (hq := (zA (zC (zA (zC (zA zG)))))) (mp 8 rfl d (.inr c.rd) zg (hq := (zA (zC (zA (zC (zA zG)))))) (mp 9 rfl (N6 n) (.inr c.rd) zg (hq := (zA (zC (zA (zC (zA zG)))))) ?_)))
  have p := yB ys n zo; obtain ⟨ak, ag⟩ := p
  have p := (c.rd).at (k := 1) zj ag; obtain ⟨ck, ax, da, fy⟩ := p
  refine mp 10 rfl (pt ck (ax + n * 1)) (.inr c.rd) (yJ (k := .i64) d n _ ck ax xC da zo zk zk) (hq := (zA (zC (zA (zC (zA zG)))))) (mt 11 [11, 12, 13, 14, 15] rfl (I3 ak) c.rd (yQ ck (ax + n * 1) (I3 ak) zk zf (fun w2 h2 => Rd.later (k := 1) h2 zj da ag 0 _ rfl)) (hq := (zA (zC (zA (zC (zA zG)))))) ?_)
  have p := (c.rd).at (k := 1) zj ag; obtain ⟨cb, aw, cd, fs⟩ := p
  refine mp 12 rfl (pt cb (aw + n * 1)) (.inr c.rd) (yJ (k := .i64) d n _ cb aw xC cd zo zk zk) (hq := (zA (zC (zA (zC (zA zG)))))) (yH 13 zk (yR 13 rfl ?_ rfl))
  refine yW n 0 cb aw ak y (I3 y) c zj ag cd zk zk rfl zk zk rfl ?_
  intro gz d5 bs
  replace r := r.tg q bs c
  replace q := Nat.le_trans q (bs.size)
  replace c := d5
  have fo : (List.set ys n y)[n]? = some y := xA ag
  refine zS ?_
  refine ⟨rfl, .inl zk, ?_⟩
  have p := yB (List.set ys n y) o zo; obtain ⟨e0, bg⟩ := p
  have p := (c.rd).at (k := 1) zj bg; obtain ⟨cy, bc, ce, fx⟩ := p
  refine mp 14 rfl (pt cy (bc + o * 1)) (.inl zk) (yJ (k := .i64) d o _ cy bc xC ce zo zk zk) (hq := (zA (zC (zA (zC (zA zG)))))) (yH 15 zk (yR 15 rfl ?_ rfl))
  refine yW o 0 cy bc e0 ak (I3 ak) c zj bg ce zk zk rfl zk zk rfl ?_
  intro g2 d8 be
  replace r := r.tg q be c
  replace q := Nat.le_trans q (be.size)
  replace c := d8
  have fb : (List.set (List.set ys n y) o ak)[o]? = some ak := xA bg
  have eS := xU ag ah
  replace c := c.cast eS; clear eS
  refine zS ?_
  refine ⟨rfl, .inl zk, yT zk (zD (wR (zJ (xR n 1 (zK (nQ (zY (zJ (zsb o 1 (zK (zS (zL ?_))))))))))))⟩
  have d9 : n < o := by exact lt_of_el (l := ys) (a := a) zo zo zo
  replace u := (((u.trans2 (Ch.of_below ad) (fun _ h => h.elim)).trans2 (Ch.of_below a7) (fun _ h => h.elim)).trans2 (Ch.of_grown bs) (fun k e => t k e)).trans2 (Ch.of_grown be) (fun k e => t k e)
  refine zD ⟨_, zo, (n + 1), (o - 1), (swp ys n o), rfl, z, zk, c, r, u, q, zo, ?_, ?_, ?_, ?_⟩
  ·rw [yX]; exact i3
  ·exact .swap _ _ i4 zo zo zo
  ·exact r5.swap zo (lt_of_el (l := ys) (a := a) zo zo zo) zo zo zo zo
  exact piv_keep i6 zo zo
 intro ep
 replace ep : o < n := by omega
 refine zU (qs (qs (qs (qs (qs (qs (qs (qs (qs (qF (yG ?_)))))))))))
 intro gm af
 replace r := r.trans (af.mono q)
 replace q := Nat.le_trans q (af.size)
 refine zD (zF (yU (zV (zV (yI (zD (yC (wR (zJ (zJ (nGt n o ?_ ?_)))))))))))
 ·intro gv
  refine nQ (zT (yU (zV (zxo (zV (yI (zD (wR (zJ (zK (nQ (yA (yK [(N6 n)] (hd := z) ?_)))))))))))))
  replace u := u.trans2 (Ch.of_below af) (fun _ h => h.elim)
  replace c := c.below af
  exact ⟨ys, n, rfl, c, (by exact i4), zo, (by exact r5.at zo), (by exact i6), u⟩
 intro gg
 refine nQ (zF (zW (zD (yC (xD 13 16 zk zk zk ?_)))))
 intro gs a8
 replace r := r.trans (a8.mono q)
 replace q := Nat.le_trans q (a8.size)
 refine ⟨fun w => (Rd w encI32 d ys), ?_⟩
 replace c := (c.below af).below a8
 refine mp 0 rfl d (.inr c.rd) zg (hq := (zA (zC (zA (zC (zA zG)))))) (mp 1 rfl (N6 n) (.inr c.rd) zg (hq := (zA (zC (zA (zC (zA zG)))))) (mp 2 rfl d (.inr c.rd) zg (hq := (zA (zC (zA (zC (zA zG)))))) (mp 3 rfl (N6 o) (.inr c.rd) zg (hq := (zA (zC (zA (zC (zA zG)))))) (mp 4 rfl d (.inr c.rd) zg (hq := (zA (zC (zA (zC (zA zG)))))) (mp 5 rfl (N6 o) (.inr c.rd) zg (hq := (zA (zC (zA (zC (zA zG)))))) ?_)))))
 have p := yB ys o zo; obtain ⟨ai, bf⟩ := p
 have p := (c.rd).at (k := 1) zj bf; obtain ⟨co, a5, ct, f1⟩ := p
 refine mp 6 rfl (pt co (a5 + o * 1)) (.inr c.rd) (yJ (k := .i64) d o _ co a5 xC ct zo zk zk) (hq := (zA (zC (zA (zC (zA zG)))))) (mt 7 [7, 12, 13, 14, 15] rfl (I3 ai) c.rd (yQ co (a5 + o * 1) (I3 ai) zk zf (fun w2 h2 => Rd.later (k := 1) h2 zj ct bf 0 _ rfl)) (hq := (zA (zC (zA (zC (zA zG)))))) (mp 8 rfl d (.inr c.rd) zg (hq := (zA (zC (zA (zC (zA zG)))))) (mp 9 rfl (N6 n) (.inr c.rd) zg (hq := (zA (zC (zA (zC (zA zG)))))) ?_)))
 have p := yB ys n zo; obtain ⟨al, aa⟩ := p
 have p := (c.rd).at (k := 1) zj aa; obtain ⟨b8, a2, c3, fc⟩ := p
 refine mp 10 rfl (pt b8 (a2 + n * 1)) (.inr c.rd) (yJ (k := .i64) d n _ b8 a2 xC c3 zo zk zk) (hq := (zA (zC (zA (zC (zA zG)))))) (mt 11 [11, 12, 13, 14, 15] rfl (I3 al) c.rd (yQ b8 (a2 + n * 1) (I3 al) zk zf (fun w2 h2 => Rd.later (k := 1) h2 zj c3 aa 0 _ rfl)) (hq := (zA (zC (zA (zC (zA zG)))))) ?_)
 have p := (c.rd).at (k := 1) zj aa; obtain ⟨c1, a1, cr, fr⟩ := p
 refine mp 12 rfl (pt c1 (a1 + n * 1)) (.inr c.rd) (yJ (k := .i64) d n _ c1 a1 xC cr zo zk zk) (hq := (zA (zC (zA (zC (zA zG)))))) (yH 13 zk (yR 13 rfl ?_ rfl))
 refine yW n 0 c1 a1 al ai (I3 ai) c zj aa cr zk zk rfl zk zk rfl ?_
 intro gj d1 bx
 replace r := r.tg q bx c
 replace q := Nat.le_trans q (bx.size)
 replace c := d1
 have fd : (List.set ys n ai)[n]? = some ai := xA aa
 refine zS ?_
 refine ⟨rfl, .inl zk, ?_⟩
 have p := yB (List.set ys n ai) o zo; obtain ⟨eb, bk⟩ := p
 have p := (c.rd).at (k := 1) zj bk; obtain ⟨db, a6, cs, f0⟩ := p
 refine mp 14 rfl (pt db (a6 + o * 1)) (.inl zk) (yJ (k := .i64) d o _ db a6 xC cs zo zk zk) (hq := (zA (zC (zA (zC (zA zG)))))) (yH 15 zk (yR 15 rfl ?_ rfl))
 refine yW o 0 db a6 eb al (I3 al) c zj bk cs zk zk rfl zk zk rfl ?_
 intro gx dv bj
 replace r := r.tg q bj c
 replace q := Nat.le_trans q (bj.size)
 replace c := dv
 have fm : (List.set (List.set ys n ai) o al)[o]? = some al := xA bk
 have eS := xU aa bf
 replace c := c.cast eS; clear eS
 refine zS ?_
 refine ⟨rfl, .inl zk, yT zk (zD (wR (zJ (xR n 1 (zK (nQ (zY (zJ (zsb o 1 (zK (zS (zL ?_))))))))))))⟩
 have d9 : n < o := by exact lt_of_el (l := ys) (a := a) zo zo zo
 replace u := (((u.trans2 (Ch.of_below af) (fun _ h => h.elim)).trans2 (Ch.of_below a8) (fun _ h => h.elim)).trans2 (Ch.of_grown bx) (fun k e => t k e)).trans2 (Ch.of_grown bj) (fun k e => t k e)
 refine zD ⟨_, zo, (n + 1), (o - 1), (swp ys n o), rfl, z, zk, c, r, u, q, zo, ?_, ?_, ?_, ?_⟩
 ·rw [yX]; exact i3
 ·exact .swap _ _ i4 zo zo zo
 ·exact r5.swap zo (lt_of_el (l := ys) (a := a) zo zo zo) zo zo zo zo
 exact piv_keep i6 zo zo
end Go.Proofs.YtddnhlobnembaaaGreatDoor
end

/- === Wcsy === -/
section
/- Walks, written by my program walk.py out of the specification csy.py: each theorem says what one function returns and that it leaves memory as it was. -/
namespace Go.Proofs.YtddnhlobnembaaaGreatDoor
open Go Go.RowKit Go.FK _root_.Go.Proofs.Tryz
set_option maxHeartbeats 4000000
set_option maxRecDepth 100000
theorem c_part (B_ : Nat) (d : Value) (s : List (Int)) (a : Nat) (b : Nat) (pv : Nat) (w : World) (hs0 : B_ ≤ w.heap.size) (c : Row w B_ 21 1 encI32 d s) (h1 : a < b) (h2 : b ≤ s.length) (h3 : s.length ≤ 2305843009213693951) (h4 : a ≤ pv ∧ pv < b) :
  Calls Tryz.prog 136 #[d, (N6 a), (N6 b), (N6 pv)] w (Ret fun v w' => ∃ (ys : List (Int)) (m : Nat) (q : Bool), v = (.tuple #[(N6 m), (.bool q)]) ∧ Row w' B_ 21 1 encI32 d ys ∧ (Sw a b s ys) ∧ (a ≤ m ∧ m < b) ∧ (Mid ys a b m) ∧ Ch (fun k => Value.ownBlock d = some k) w w') := by
 refine wO 168 func136 rfl ?_
 have p := Below.refl B_ w
 have n : B_ ≤ (World.heap w).size := hs0
 have r := Ch.refl (fun k => Value.ownBlock d = some k) w
 have u : ∀ g, Value.ownBlock d = some g → (World.heap w).size ≤ g ∨ (fun k => Value.ownBlock d = some k) g := fun g h => .inr h
 have gk := yX s a pv
 refine wR (zK (zK (nW (xD 13 16 zk zk zk ?_))))
 intro w1 d2
 replace p := p.trans (d2.mono n)
 replace n := Nat.le_trans n (d2.size)
 refine ⟨fun w => (Rd w encI32 d s), ?_⟩
 replace c := c.below d2
 refine mp 0 rfl d (.inr c.rd) zg (hq := (zA zG)) (mp 1 rfl (N6 a) (.inr c.rd) zg (hq := (zA zG)) (mp 2 rfl d (.inr c.rd) zg (hq := (zA zG)) (mp 3 rfl (N6 pv) (.inr c.rd) zg (hq := (zA zG)) (mp 4 rfl d (.inr c.rd) zg (hq := (zA zG)) (mp 5 rfl (N6 pv) (.inr c.rd) zg (hq := (zA zG)) ?_)))))
 have o := yB s pv zo; obtain ⟨x3, ef⟩ := o
 have o := (c.rd).at (k := 1) zj ef; obtain ⟨g5, cy, fh, jf⟩ := o
 refine mp 6 rfl (pt g5 (cy + pv * 1)) (.inr c.rd) (yJ (k := .i64) d pv _ g5 cy xC fh zo zk zk) (hq := (zA zG)) (mt 7 [7, 12, 13, 14, 15] rfl (I3 x3) c.rd (yQ g5 (cy + pv * 1) (I3 x3) zk zf (fun w2 h2 => Rd.later (k := 1) h2 zj fh ef 0 _ rfl)) (hq := (zA zG)) (mp 8 rfl d (.inr c.rd) zg (hq := (zA zG)) (mp 9 rfl (N6 a) (.inr c.rd) zg (hq := (zA zG)) ?_)))
 have o := yB s a zo; obtain ⟨x9, ao⟩ := o
 have o := (c.rd).at (k := 1) zj ao; obtain ⟨en, bx, d8, g8⟩ := o
 refine mp 10 rfl (pt en (bx + a * 1)) (.inr c.rd) (yJ (k := .i64) d a _ en bx xC d8 zo zk zk) (hq := (zA zG)) (mt 11 [11, 12, 13, 14, 15] rfl (I3 x9) c.rd (yQ en (bx + a * 1) (I3 x9) zk zf (fun w2 h2 => Rd.later (k := 1) h2 zj d8 ao 0 _ rfl)) (hq := (zA zG)) ?_)
 have o := (c.rd).at (k := 1) zj ao; obtain ⟨es, b4, d6, ie⟩ := o
 refine mp 12 rfl (pt es (b4 + a * 1)) (.inr c.rd) (yJ (k := .i64) d a _ es b4 xC d6 zo zk zk) (hq := (zA zG)) (yH 13 zk (yR 13 rfl ?_ rfl))
 refine yW a 0 es b4 x9 x3 (I3 x3) c zj ao d6 zk zk rfl zk zk rfl ?_
 intro jp fr dj
 replace p := p.tg n dj c
 replace n := Nat.le_trans n (dj.size)
 replace c := fr
 have h5 : (List.set s a x3)[a]? = some x3 := xA ao
 refine zS ?_
 refine ⟨rfl, .inl zk, ?_⟩
 have o := yB (List.set s a x3) pv (by (simp only [yX, List.length_set] at *; omega)); obtain ⟨gw, dp⟩ := o
 have o := (c.rd).at (k := 1) zj dp; obtain ⟨ec, cb, ea, g6⟩ := o
 refine mp 14 rfl (pt ec (cb + pv * 1)) (.inl zk) (yJ (k := .i64) d pv _ ec cb xC ea (by (simp only [yX, List.length_set] at *; omega)) zk zk) (hq := (zA zG)) (yH 15 zk (yR 15 rfl ?_ rfl))
 refine yW pv 0 ec cb gw x9 (I3 x9) c zj dp ea zk zk rfl zk zk rfl ?_
 intro i8 fp c1
 replace p := p.tg n c1 c
 replace n := Nat.le_trans n (c1.size)
 replace c := fp
 have im : (List.set (List.set s a x3) pv x9)[pv]? = some x9 := xA dp
 have eS := xU ao ef
 replace c := c.cast eS; clear eS
 refine zS ?_
 refine ⟨rfl, .inl zk, yT zk (zD (wR (zJ (xR a 1 (zJ (zsb b 1 (zK (zK (nQ (W_cut (fun s0 w0 => ∃ (ia : Nat), (s0.ds = []) ∧ ([0, 1, 8, 9, 11, 10].map s0.f = [d, (N6 a), (I6 0), (.bool false), (N6 (b - 1)), (N6 ia)]) ∧ (Row w0 B_ 21 1 encI32 d (swp s a pv)) ∧ (Below B_ w w0) ∧ (Ch (fun k => Value.ownBlock d = some k) w w0) ∧ (B_ ≤ w0.heap.size) ∧ (a < ia ∧ ia ≤ b) ∧ (Prt (swp s a pv) a b ia (b - 1)) ∧ (b - 1 < ia ∨ el (swp s a pv) a ≤ el (swp s a pv) ia)) ?_ ?_))))))))))⟩
 ·refine yF ?_
  replace r := ((r.trans2 (Ch.of_below d2) (fun _ h => h.elim)).trans2 (Ch.of_grown dj) (fun k e => u k e)).trans2 (Ch.of_grown c1) (fun k e => u k e)
  refine xG (fun m s0 w0 => ∃ (i1 : Nat), (m = b - i1) ∧ (s0.ds = []) ∧ ([0, 1, 8, 9, 11, 10].map s0.f = [d, (N6 a), (I6 0), (.bool false), (N6 (b - 1)), (N6 i1)]) ∧ (Row w0 B_ 21 1 encI32 d (swp s a pv)) ∧ (Below B_ w w0) ∧ (Ch (fun k => Value.ownBlock d = some k) w w0) ∧ (B_ ≤ w0.heap.size) ∧ (a < i1 ∧ i1 ≤ b) ∧ (Prt (swp s a pv) a b i1 (b - 1))) _ ⟨(a + 1), rfl, zk, zk, c, p, r, n, zo, Prt.start⟩ ?_
  rintro i6 jq ji ⟨i1, hm, t, ac, c, p, r, n, u1, u5⟩
  refine yZ ac (yC (yC (yP zk zk (zU (zU (xB .i64 ((i1 : Nat) : Int) (((b - 1) : Nat) : Int) (i1 ≤ (b - 1)) rfl (qV i1 (b - 1)) zk zk ?_ ?_))))))
  ·intro g0
   replace g0 : i1 ≤ (b - 1) := by omega
   refine zU (qw (zU (qw (zU (qw ?_)))))
   have o := yB (swp s a pv) i1 zo; obtain ⟨cs, cu⟩ := o
   have o := (c.rd).at (k := 1) zj cu
   obtain ⟨fg, db, fs, e6⟩ := o
   refine yM (k := .i64) d i1 _ fg db xC fs zo zk zk (qw (zX fg (db + i1 * 1) (I3 cs) zk zf (e6 0 _ rfl) (qw (zU (qw (zU (qw ?_)))))))
   have o := yB (swp s a pv) a zo; obtain ⟨cz, c5⟩ := o
   have o := (c.rd).at (k := 1) zj c5
   obtain ⟨fl, dy, e2, fe⟩ := o
   refine yM (k := .i64) d a _ fl dy xC e2 zo zk zk (qw (zX fl (dy + a * 1) (I3 cz) zk zf (fe 0 _ rfl) (qw (xE 134 [(I3 cs), (I3 cz)] (.bool (decide (cs < cz))) zg (fun wq hbq => qO cs cz wq ) (yL (decide (cs < cz)) ?_ ?_)))))
   ·intro gs
    have gf := el_lt cu c5 gs
    refine qT (yG ?_)
    intro jh cl
    replace p := p.trans (cl.mono n)
    replace n := Nat.le_trans n (cl.size)
    refine zD (zT (zW (zD (yF (zY (zJ (xR i1 1 (zK (zS (zL ?_))))))))))
    replace r := r.trans2 (Ch.of_below cl) (fun _ h => h.elim)
    replace c := c.below cl
    exact zD ⟨_, zo, (i1 + 1), rfl, t, zk, c, p, r, n, zo, u5.up za⟩
   intro gx
   have ga := el_le cu c5 gx
   refine qT (yG ?_)
   intro i9 cj
   replace p := p.trans (cj.mono n)
   replace n := Nat.le_trans n (cj.size)
   refine zD (zF (yU (zV (zV (yI ?_)))))
   replace r := r.trans2 (Ch.of_below cj) (fun _ h => h.elim)
   replace c := c.below cj
   refine zD ⟨i1, t, zk, c, p, r, n, zo, ?_, ?_⟩
   ·exact u5
   exact .inr za
  intro gi
  replace gi : (b - 1) < i1 := by omega
  refine zU (qs (qs (qs (qs (qs (qs (qs (qs (qs (qF (yG ?_)))))))))))
  intro iw cf
  replace p := p.trans (cf.mono n)
  replace n := Nat.le_trans n (cf.size)
  refine zD (zF (yU (zV (zV (yI ?_)))))
  replace r := r.trans2 (Ch.of_below cf) (fun _ h => h.elim)
  replace c := c.below cf
  refine zD ⟨i1, t, zk, c, p, r, n, zo, ?_, ?_⟩
  ·exact u5
  exact .inl zo
 rintro jr jj ⟨ia, t, ac, c, p, r, n, u1, u5, u6⟩
 refine yZ ac (W_cut (fun s0 w0 => ∃ (z : Nat), (s0.ds = []) ∧ ([0, 1, 8, 9, 10, 11].map s0.f = [d, (N6 a), (I6 0), (.bool false), (N6 ia), (N6 z)]) ∧ (Row w0 B_ 21 1 encI32 d (swp s a pv)) ∧ (Below B_ w w0) ∧ (Ch (fun k => Value.ownBlock d = some k) w w0) ∧ (B_ ≤ w0.heap.size) ∧ (ia ≤ z + 1 ∧ z < b) ∧ (Prt (swp s a pv) a b ia z) ∧ (z < ia ∨ el (swp s a pv) z < el (swp s a pv) a)) ?_ ?_)
 ·refine yF (xG (fun m s0 w0 => ∃ (j1 : Nat), (m = j1 + 1 - ia) ∧ (s0.ds = []) ∧ ([0, 1, 8, 9, 10, 11].map s0.f = [d, (N6 a), (I6 0), (.bool false), (N6 ia), (N6 j1)]) ∧ (Row w0 B_ 21 1 encI32 d (swp s a pv)) ∧ (Below B_ w w0) ∧ (Ch (fun k => Value.ownBlock d = some k) w w0) ∧ (B_ ≤ w0.heap.size) ∧ (ia ≤ j1 + 1 ∧ j1 < b) ∧ (Prt (swp s a pv) a b ia j1)) _ ⟨(b - 1), rfl, t, zk, c, p, r, n, zo, u5⟩ ?_)
  rintro i0 jd i7 ⟨j1, hm, t, ac, c, p, r, n, v1, v5⟩
  refine yZ ac (yC (yC (yP zk zk (zU (zU (xB .i64 ((ia : Nat) : Int) ((j1 : Nat) : Int) (ia ≤ j1) rfl (qV ia j1) zk zk ?_ ?_))))))
  ·intro gh
   replace gh : ia ≤ j1 := by omega
   refine zU (qw (zU (qw (zU (qw ?_)))))
   have o := yB (swp s a pv) j1 zo; obtain ⟨c6, dr⟩ := o
   have o := (c.rd).at (k := 1) zj dr
   obtain ⟨fa, dc, fb, e4⟩ := o
   refine yM (k := .i64) d j1 _ fa dc xC fb zo zk zk (qw (zX fa (dc + j1 * 1) (I3 c6) zk zf (e4 0 _ rfl) (qw (zU (qw (zU (qw ?_)))))))
   have o := yB (swp s a pv) a zo; obtain ⟨dd, cw⟩ := o
   have o := (c.rd).at (k := 1) zj cw
   obtain ⟨fi, dg, fm, fn⟩ := o
   refine yM (k := .i64) d a _ fi dg xC fm zo zk zk (qw (zX fi (dg + a * 1) (I3 dd) zk zf (fn 0 _ rfl) (qw (xE 134 [(I3 c6), (I3 dd)] (.bool (decide (c6 < dd))) zg (fun wq hbq => qO c6 dd wq ) (yL (decide (c6 < dd)) ?_ ?_)))))
   ·intro f6
    have gj := el_lt dr cw f6
    refine qw (xF true zk (qT (yG ?_)))
    intro ix ck
    replace p := p.trans (ck.mono n)
    replace n := Nat.le_trans n (ck.size)
    refine zD (zF (yU (zV (zV (yI ?_)))))
    replace r := r.trans2 (Ch.of_below ck) (fun _ h => h.elim)
    replace c := c.below ck
    refine zD ⟨j1, t, zk, c, p, r, n, zo, ?_, ?_⟩
    ·exact v5
    exact .inr za
   intro gr
   have g4 := el_le dr cw gr
   refine qw (xF false zk (qT (yG ?_)))
   intro iz cn
   replace p := p.trans (cn.mono n)
   replace n := Nat.le_trans n (cn.size)
   refine zD (zT (zW (zD (yF (zY (zJ (zsb j1 1 (zK (zS (zL ?_))))))))))
   replace r := r.trans2 (Ch.of_below cn) (fun _ h => h.elim)
   replace c := c.below cn
   exact zD ⟨_, zo, (j1 - 1), rfl, t, zk, c, p, r, n, zo, v5.down za zo⟩
  intro gz
  replace gz : j1 < ia := by omega
  refine zU (qs (qs (qs (qs (qs (qs (qs (qs (qs (qs (qF (yG ?_))))))))))))
  intro jm cm
  replace p := p.trans (cm.mono n)
  replace n := Nat.le_trans n (cm.size)
  refine zD (zF (yU (zV (zV (yI ?_)))))
  replace r := r.trans2 (Ch.of_below cm) (fun _ h => h.elim)
  replace c := c.below cm
  refine zD ⟨j1, t, zk, c, p, r, n, zo, ?_, ?_⟩
  ·exact v5
  exact .inl zo
 rintro js iy ⟨z, t, ac, c, p, r, n, v1, v5, v6⟩
 refine yZ ac (yC (wR (zJ (zJ (nGt ia z ?_ ?_)))))
 ·intro je
  refine nQ (zT (yC (xD 13 16 zk zk zk ?_)))
  intro jo ci
  replace p := p.trans (ci.mono n)
  replace n := Nat.le_trans n (ci.size)
  refine ⟨fun w => (Rd w encI32 d (swp s a pv)), ?_⟩
  replace c := c.below ci
  refine mp 0 rfl d (.inr c.rd) zg (hq := (zA (zA zG))) (mp 1 rfl (N6 z) (.inr c.rd) zg (hq := (zA (zA zG))) (mp 2 rfl d (.inr c.rd) zg (hq := (zA (zA zG))) (mp 3 rfl (N6 a) (.inr c.rd) zg (hq := (zA (zA zG))) (mp 4 rfl d (.inr c.rd) zg (hq := (zA (zA zG))) (mp 5 rfl (N6 a) (.inr c.rd) zg (hq := (zA (zA zG))) ?_)))))
  have o := yB (swp s a pv) a zo; obtain ⟨bj, dq⟩ := o
  have o := (c.rd).at (k := 1) zj dq; obtain ⟨eg, bt, dm, f2⟩ := o
  refine mp 6 rfl (pt eg (bt + a * 1)) (.inr c.rd) (yJ (k := .i64) d a _ eg bt xC dm zo zk zk) (hq := (zA (zA zG))) (mt 7 [7, 12, 13, 14, 15] rfl (I3 bj) c.rd (yQ eg (bt + a * 1) (I3 bj) zk zf (fun w2 h2 => Rd.later (k := 1) h2 zj dm dq 0 _ rfl)) (hq := (zA (zA zG))) (mp 8 rfl d (.inr c.rd) zg (hq := (zA (zA zG))) (mp 9 rfl (N6 z) (.inr c.rd) zg (hq := (zA (zA zG))) ?_)))
  have o := yB (swp s a pv) z zo; obtain ⟨an, ad⟩ := o
  have o := (c.rd).at (k := 1) zj ad; obtain ⟨c3, a0, c0, gb⟩ := o
  refine mp 10 rfl (pt c3 (a0 + z * 1)) (.inr c.rd) (yJ (k := .i64) d z _ c3 a0 xC c0 zo zk zk) (hq := (zA (zA zG))) (mt 11 [11, 12, 13, 14, 15] rfl (I3 an) c.rd (yQ c3 (a0 + z * 1) (I3 an) zk zf (fun w2 h2 => Rd.later (k := 1) h2 zj c0 ad 0 _ rfl)) (hq := (zA (zA zG))) ?_)
  have o := (c.rd).at (k := 1) zj ad; obtain ⟨dn, a3, cx, gd⟩ := o
  refine mp 12 rfl (pt dn (a3 + z * 1)) (.inr c.rd) (yJ (k := .i64) d z _ dn a3 xC cx zo zk zk) (hq := (zA (zA zG))) (yH 13 zk (yR 13 rfl ?_ rfl))
  refine yW z 0 dn a3 an bj (I3 bj) c zj ad cx zk zk rfl zk zk rfl ?_
  intro ij ed b2
  replace p := p.tg n b2 c
  replace n := Nat.le_trans n (b2.size)
  replace c := ed
  have fz : (List.set (swp s a pv) z bj)[z]? = some bj := xA ad
  refine zS ?_
  refine ⟨rfl, .inl zk, ?_⟩
  have o := yB (List.set (swp s a pv) z bj) a (by (simp only [yX, List.length_set] at *; omega)); obtain ⟨fo, b8⟩ := o
  have o := (c.rd).at (k := 1) zj b8; obtain ⟨c2, bf, cr, f5⟩ := o
  refine mp 14 rfl (pt c2 (bf + a * 1)) (.inl zk) (yJ (k := .i64) d a _ c2 bf xC cr (by (simp only [yX, List.length_set] at *; omega)) zk zk) (hq := (zA (zA zG))) (yH 15 zk (yR 15 rfl ?_ rfl))
  refine yW a 0 c2 bf fo an (I3 an) c zj b8 cr zk zk rfl zk zk rfl ?_
  intro ic em b5
  replace p := p.tg n b5 c
  replace n := Nat.le_trans n (b5.size)
  replace c := em
  have gp : (List.set (List.set (swp s a pv) z bj) a an)[a]? = some an := xA b8
  have eS := xU ad dq
  replace c := c.cast eS; clear eS
  refine zS ?_
  refine ⟨rfl, .inl zk, yT zk (zD (wR (zJ (zK (zK (nQ (yA (zI (yK [(N6 z), (.bool true)] (hd := t) ?_)))))))))⟩
  replace r := ((r.trans2 (Ch.of_below ci) (fun _ h => h.elim)).trans2 (Ch.of_grown b2) (fun k e => u k e)).trans2 (Ch.of_grown b5) (fun k e => u k e)
  exact ⟨(swp (swp s a pv) z a), z, true, rfl, c, (by exact .swap _ _ (.swap _ _ .refl zo zo zo) zo zo (by rw [yX]; omega)), zo, (by exact v5.mid zo zo zo (by rw [yX]; omega)), r⟩
 intro ir
 refine nQ (zF (zW (zD (yC (xD 13 16 zk zk zk ?_)))))
 intro il aw
 replace p := p.trans (aw.mono n)
 replace n := Nat.le_trans n (aw.size)
 refine ⟨fun w => (Rd w encI32 d (swp s a pv)), ?_⟩
 replace c := c.below aw
 refine mp 0 rfl d (.inr c.rd) zg (hq := (zA zG)) (mp 1 rfl (N6 ia) (.inr c.rd) zg (hq := (zA zG)) (mp 2 rfl d (.inr c.rd) zg (hq := (zA zG)) (mp 3 rfl (N6 z) (.inr c.rd) zg (hq := (zA zG)) (mp 4 rfl d (.inr c.rd) zg (hq := (zA zG)) (mp 5 rfl (N6 z) (.inr c.rd) zg (hq := (zA zG)) ?_)))))
 have o := yB (swp s a pv) z zo; obtain ⟨ai, br⟩ := o
 have o := (c.rd).at (k := 1) zj br; obtain ⟨dt, a1, cq, gv⟩ := o
 refine mp 6 rfl (pt dt (a1 + z * 1)) (.inr c.rd) (yJ (k := .i64) d z _ dt a1 xC cq zo zk zk) (hq := (zA zG)) (mt 7 [7, 12, 13, 14, 15] rfl (I3 ai) c.rd (yQ dt (a1 + z * 1) (I3 ai) zk zf (fun w2 h2 => Rd.later (k := 1) h2 zj cq br 0 _ rfl)) (hq := (zA zG)) (mp 8 rfl d (.inr c.rd) zg (hq := (zA zG)) (mp 9 rfl (N6 ia) (.inr c.rd) zg (hq := (zA zG)) ?_)))
 have o := yB (swp s a pv) ia zo; obtain ⟨am, af⟩ := o
 have o := (c.rd).at (k := 1) zj af; obtain ⟨co, a9, di, gq⟩ := o
 refine mp 10 rfl (pt co (a9 + ia * 1)) (.inr c.rd) (yJ (k := .i64) d ia _ co a9 xC di zo zk zk) (hq := (zA zG)) (mt 11 [11, 12, 13, 14, 15] rfl (I3 am) c.rd (yQ co (a9 + ia * 1) (I3 am) zk zf (fun w2 h2 => Rd.later (k := 1) h2 zj di af 0 _ rfl)) (hq := (zA zG)) ?_)
 have o := (c.rd).at (k := 1) zj af; obtain ⟨de, bb, df, gc⟩ := o
 refine mp 12 rfl (pt de (bb + ia * 1)) (.inr c.rd) (yJ (k := .i64) d ia _ de bb xC df zo zk zk) (hq := (zA zG)) (yH 13 zk (yR 13 rfl ?_ rfl))
 refine yW ia 0 de bb am ai (I3 ai) c zj af df zk zk rfl zk zk rfl ?_
 intro h0 ev ca
 replace p := p.tg n ca c
 replace n := Nat.le_trans n (ca.size)
 replace c := ev
 have gg : (List.set (swp s a pv) ia ai)[ia]? = some ai := xA af
 refine zS ?_
 refine ⟨rfl, .inl zk, ?_⟩
 have o := yB (List.set (swp s a pv) ia ai) z (by (simp only [yX, List.length_set] at *; omega)); obtain ⟨fq, b3⟩ := o
 have o := (c.rd).at (k := 1) zj b3; obtain ⟨dv, ay, c9, f4⟩ := o
 refine mp 14 rfl (pt dv (ay + z * 1)) (.inl zk) (yJ (k := .i64) d z _ dv ay xC c9 (by (simp only [yX, List.length_set] at *; omega)) zk zk) (hq := (zA zG)) (yH 15 zk (yR 15 rfl ?_ rfl))
 refine yW z 0 dv ay fq am (I3 am) c zj b3 c9 zk zk rfl zk zk rfl ?_
 intro g9 er bw
 replace p := p.tg n bw c
 replace n := Nat.le_trans n (bw.size)
 replace c := er
 have gl : (List.set (List.set (swp s a pv) ia ai) z am)[z]? = some am := xA b3
 have eS := xU af br
 replace c := c.cast eS; clear eS
 refine zS ?_
 refine ⟨rfl, .inl zk, yT zk (zD (wR (zJ (xR ia 1 (zK (nR (zJ (zsb z 1 (zK (nW (yF ?_)))))))))))⟩
 have ez : ia < z := lt_of_el2 (l := (swp s a pv)) (a := a) zo (u6.resolve_left zo) (v6.resolve_left zo)
 replace r := ((r.trans2 (Ch.of_below aw) (fun _ h => h.elim)).trans2 (Ch.of_grown ca) (fun k e => u k e)).trans2 (Ch.of_grown bw) (fun k e => u k e)
 refine xG (fun m s0 w0 => ∃ (i : Nat) (j : Nat) (ys : List Int), (m = j + 1 - i) ∧ (s0.ds = []) ∧ ([0, 1, 8, 9, 10, 11].map s0.f = [d, (N6 a), (I6 0), (.bool false), (N6 i), (N6 j)]) ∧ (Row w0 B_ 21 1 encI32 d ys) ∧ (Below B_ w w0) ∧ (Ch (fun k => Value.ownBlock d = some k) w w0) ∧ (B_ ≤ w0.heap.size) ∧ (a < i ∧ i ≤ j + 1 ∧ j < b) ∧ (ys.length = s.length) ∧ (Sw a b s ys) ∧ (Prt ys a b i j)) _ ⟨(ia + 1), (z - 1), (swp (swp s a pv) ia z), rfl, t, zk, c, p, r, n, zo, ((yX _ _ _).trans gk), (.swap _ _ (.swap _ _ .refl zo zo zo) zo zo (by rw [yX]; omega)), (v5.swap zo ez zo zo (u6.resolve_left zo) (v6.resolve_left zo))⟩ ?_
 rintro hj hr ig ⟨i, j, ys, hm, t, ac, c, p, r, n, w1, i3, i4, i5⟩
 refine yZ ac (yF (W_cut (fun s0 w0 => ∃ (ib : Nat), (s0.ds = []) ∧ ([0, 1, 8, 9, 11, 10].map s0.f = [d, (N6 a), (I6 0), (.bool false), (N6 j), (N6 ib)]) ∧ (Row w0 B_ 21 1 encI32 d ys) ∧ (Below B_ w w0) ∧ (Ch (fun k => Value.ownBlock d = some k) w w0) ∧ (B_ ≤ w0.heap.size) ∧ (a < ib ∧ ib ≤ j + 1 ∧ i ≤ ib) ∧ (Prt ys a b ib j) ∧ (j < ib ∨ el ys a ≤ el ys ib)) ?_ ?_))
 ·refine yF (xG (fun m s0 w0 => ∃ (i2 : Nat), (m = j + 1 - i2) ∧ (s0.ds = []) ∧ ([0, 1, 8, 9, 11, 10].map s0.f = [d, (N6 a), (I6 0), (.bool false), (N6 j), (N6 i2)]) ∧ (Row w0 B_ 21 1 encI32 d ys) ∧ (Below B_ w w0) ∧ (Ch (fun k => Value.ownBlock d = some k) w w0) ∧ (B_ ≤ w0.heap.size) ∧ (a < i2 ∧ i2 ≤ j + 1 ∧ i ≤ i2) ∧ (Prt ys a b i2 j)) _ ⟨i, rfl, t, zk, c, p, r, n, zo, i5⟩ ?_)
  rintro id h6 h9 ⟨i2, hm, t, ac, c, p, r, n, q1, q5⟩
  refine yZ ac (yC (yC (yP zk zk (zU (zU (xB .i64 ((i2 : Nat) : Int) ((j : Nat) : Int) (i2 ≤ j) rfl (qV i2 j) zk zk ?_ ?_))))))
  ·intro e3
   replace e3 : i2 ≤ j := by omega
   refine zU (qw (zU (qw (zU (qw ?_)))))
   have o := yB ys i2 zo; obtain ⟨bl, b1⟩ := o
   have o := (c.rd).at (k := 1) zj b1
   obtain ⟨d7, cd, eo, ek⟩ := o
   refine yM (k := .i64) d i2 _ d7 cd xC eo zo zk zk (qw (zX d7 (cd + i2 * 1) (I3 bl) zk zf (ek 0 _ rfl) (qw (zU (qw (zU (qw ?_)))))))
   have o := yB ys a zo; obtain ⟨bn, bv⟩ := o
   have o := (c.rd).at (k := 1) zj bv
   obtain ⟨d4, ch, eu, eb⟩ := o
   refine yM (k := .i64) d a _ d4 ch xC eu zo zk zk (qw (zX d4 (ch + a * 1) (I3 bn) zk zf (eb 0 _ rfl) (qw (xE 134 [(I3 bl), (I3 bn)] (.bool (decide (bl < bn))) zg (fun wq hbq => qO bl bn wq ) (yL (decide (bl < bn)) ?_ ?_)))))
   ·intro ff
    have fw := el_lt b1 bv ff
    refine qT (yG ?_)
    intro ih be
    replace p := p.trans (be.mono n)
    replace n := Nat.le_trans n (be.size)
    refine zD (zT (zW (zD (yF (zY (zJ (xR i2 1 (zK (zS (zL ?_))))))))))
    replace r := r.trans2 (Ch.of_below be) (fun _ h => h.elim)
    replace c := c.below be
    exact zD ⟨_, zo, (i2 + 1), rfl, t, zk, c, p, r, n, zo, q5.up za⟩
   intro e9
   have fx := el_le b1 bv e9
   refine qT (yG ?_)
   intro iu a4
   replace p := p.trans (a4.mono n)
   replace n := Nat.le_trans n (a4.size)
   refine zD (zF (yU (zV (zV (yI ?_)))))
   replace r := r.trans2 (Ch.of_below a4) (fun _ h => h.elim)
   replace c := c.below a4
   refine zD ⟨i2, t, zk, c, p, r, n, zo, ?_, ?_⟩
   ·exact q5
   exact .inr za
  intro e5
  replace e5 : j < i2 := by omega
  refine zU (qs (qs (qs (qs (qs (qs (qs (qs (qs (qF (yG ?_)))))))))))
  intro ha ba
  replace p := p.trans (ba.mono n)
  replace n := Nat.le_trans n (ba.size)
  refine zD (zF (yU (zV (zV (yI ?_)))))
  replace r := r.trans2 (Ch.of_below ba) (fun _ h => h.elim)
  replace c := c.below ba
  refine zD ⟨i2, t, zk, c, p, r, n, zo, ?_, ?_⟩
  ·exact q5
  exact .inl zo
 rintro hv ho ⟨ib, t, ac, c, p, r, n, x1, x5, x6⟩
 refine yZ ac (W_cut (fun s0 w0 => ∃ (y : Nat), (s0.ds = []) ∧ ([0, 1, 8, 9, 10, 11].map s0.f = [d, (N6 a), (I6 0), (.bool false), (N6 ib), (N6 y)]) ∧ (Row w0 B_ 21 1 encI32 d ys) ∧ (Below B_ w w0) ∧ (Ch (fun k => Value.ownBlock d = some k) w w0) ∧ (B_ ≤ w0.heap.size) ∧ (ib ≤ y + 1 ∧ y < b ∧ y ≤ j) ∧ (Prt ys a b ib y) ∧ (y < ib ∨ el ys y < el ys a)) ?_ ?_)
 ·refine yF (xG (fun m s0 w0 => ∃ (j2 : Nat), (m = j2 + 1 - ib) ∧ (s0.ds = []) ∧ ([0, 1, 8, 9, 10, 11].map s0.f = [d, (N6 a), (I6 0), (.bool false), (N6 ib), (N6 j2)]) ∧ (Row w0 B_ 21 1 encI32 d ys) ∧ (Below B_ w w0) ∧ (Ch (fun k => Value.ownBlock d = some k) w w0) ∧ (B_ ≤ w0.heap.size) ∧ (ib ≤ j2 + 1 ∧ j2 < b ∧ j2 ≤ j) ∧ (Prt ys a b ib j2)) _ ⟨j, rfl, t, zk, c, p, r, n, zo, x5⟩ ?_)
  rintro hl ht g7 ⟨j2, hm, t, ac, c, p, r, n, r1, r5⟩
  refine yZ ac (yC (yC (yP zk zk (zU (zU (xB .i64 ((ib : Nat) : Int) ((j2 : Nat) : Int) (ib ≤ j2) rfl (qV ib j2) zk zk ?_ ?_))))))
  ·intro fk
   replace fk : ib ≤ j2 := by omega
   refine zU (qw (zU (qw (zU (qw ?_)))))
   have o := yB ys j2 zo; obtain ⟨bk, bs⟩ := o
   have o := (c.rd).at (k := 1) zj bs
   obtain ⟨d9, cg, ew, ei⟩ := o
   refine yM (k := .i64) d j2 _ d9 cg xC ew zo zk zk (qw (zX d9 (cg + j2 * 1) (I3 bk) zk zf (ei 0 _ rfl) (qw (zU (qw (zU (qw ?_)))))))
   have o := yB ys a zo; obtain ⟨bm, bo⟩ := o
   have o := (c.rd).at (k := 1) zj bo
   obtain ⟨d3, ce, et, ex⟩ := o
   refine yM (k := .i64) d a _ d3 ce xC et zo zk zk (qw (zX d3 (ce + a * 1) (I3 bm) zk zf (ex 0 _ rfl) (qw (xE 134 [(I3 bk), (I3 bm)] (.bool (decide (bk < bm))) zg (fun wq hbq => qO bk bm wq ) (yL (decide (bk < bm)) ?_ ?_)))))
   ·intro fd
    have fv := el_lt bs bo fd
    refine qw (xF true zk (qT (yG ?_)))
    intro he bc
    replace p := p.trans (bc.mono n)
    replace n := Nat.le_trans n (bc.size)
    refine zD (zF (yU (zV (zV (yI ?_)))))
    replace r := r.trans2 (Ch.of_below bc) (fun _ h => h.elim)
    replace c := c.below bc
    refine zD ⟨j2, t, zk, c, p, r, n, zo, ?_, ?_⟩
    ·exact r5
    exact .inr za
   intro e7
   have fu := el_le bs bo e7
   refine qw (xF false zk (qT (yG ?_)))
   intro hg a7
   replace p := p.trans (a7.mono n)
   replace n := Nat.le_trans n (a7.size)
   refine zD (zT (zW (zD (yF (zY (zJ (zsb j2 1 (zK (zS (zL ?_))))))))))
   replace r := r.trans2 (Ch.of_below a7) (fun _ h => h.elim)
   replace c := c.below a7
   exact zD ⟨_, zo, (j2 - 1), rfl, t, zk, c, p, r, n, zo, r5.down za zo⟩
  intro e8
  replace e8 : j2 < ib := by omega
  refine zU (qs (qs (qs (qs (qs (qs (qs (qs (qs (qs (qF (yG ?_))))))))))))
  intro hw a8
  replace p := p.trans (a8.mono n)
  replace n := Nat.le_trans n (a8.size)
  refine zD (zF (yU (zV (zV (yI ?_)))))
  replace r := r.trans2 (Ch.of_below a8) (fun _ h => h.elim)
  replace c := c.below a8
  refine zD ⟨j2, t, zk, c, p, r, n, zo, ?_, ?_⟩
  ·exact r5
  exact .inl zo
 rintro ii hi ⟨y, t, ac, c, p, r, n, y1, y5, y6⟩
 refine yZ ac (yC (wR (zJ (zJ (nGt ib y ?_ ?_)))))
 ·intro io
  refine nQ (zT (yU (zV (zxo (zV (yI (zD (yC (xD 13 16 zk zk zk ?_)))))))))
  intro h7 ar
  replace p := p.trans (ar.mono n)
  replace n := Nat.le_trans n (ar.size)
  refine ⟨fun w => (Rd w encI32 d ys), ?_⟩
  replace c := c.below ar
  refine mp 0 rfl d (.inr c.rd) zg (hq := (zA zG)) (mp 1 rfl (N6 y) (.inr c.rd) zg (hq := (zA zG)) (mp 2 rfl d (.inr c.rd) zg (hq := (zA zG)) (mp 3 rfl (N6 a) (.inr c.rd) zg (hq := (zA zG)) (mp 4 rfl d (.inr c.rd) zg (hq := (zA zG)) (mp 5 rfl (N6 a) (.inr c.rd) zg (hq := (zA zG)) ?_)))))
  have o := yB ys a zo; obtain ⟨aj, b7⟩ := o
  have o := (c.rd).at (k := 1) zj b7; obtain ⟨d1, a6, dz, go⟩ := o
  refine mp 6 rfl (pt d1 (a6 + a * 1)) (.inr c.rd) (yJ (k := .i64) d a _ d1 a6 xC dz zo zk zk) (hq := (zA zG)) (mt 7 [7, 12, 13, 14, 15] rfl (I3 aj) c.rd (yQ d1 (a6 + a * 1) (I3 aj) zk zf (fun w2 h2 => Rd.later (k := 1) h2 zj dz b7 0 _ rfl)) (hq := (zA zG)) (mp 8 rfl d (.inr c.rd) zg (hq := (zA zG)) (mp 9 rfl (N6 y) (.inr c.rd) zg (hq := (zA zG)) ?_)))
  have o := yB ys y zo; obtain ⟨al, ae⟩ := o
  have o := (c.rd).at (k := 1) zj ae; obtain ⟨c8, au, dk, f7⟩ := o
  refine mp 10 rfl (pt c8 (au + y * 1)) (.inr c.rd) (yJ (k := .i64) d y _ c8 au xC dk zo zk zk) (hq := (zA zG)) (mt 11 [11, 12, 13, 14, 15] rfl (I3 al) c.rd (yQ c8 (au + y * 1) (I3 al) zk zf (fun w2 h2 => Rd.later (k := 1) h2 zj dk ae 0 _ rfl)) (hq := (zA zG)) ?_)
  have o := (c.rd).at (k := 1) zj ae; obtain ⟨c4, av, cp, g3⟩ := o
  refine mp 12 rfl (pt c4 (av + y * 1)) (.inr c.rd) (yJ (k := .i64) d y _ c4 av xC cp zo zk zk) (hq := (zA zG)) (yH 13 zk (yR 13 rfl ?_ rfl))
  refine yW y 0 c4 av al aj (I3 aj) c zj ae cp zk zk rfl zk zk rfl ?_
  intro hh ep b0
  replace p := p.tg n b0 c
  replace n := Nat.le_trans n (b0.size)
  replace c := ep
  have f3 : (List.set ys y aj)[y]? = some aj := xA ae
  refine zS ?_
  refine ⟨rfl, .inl zk, ?_⟩
  have o := yB (List.set ys y aj) a (by (simp only [yX, List.length_set] at *; omega)); obtain ⟨e1, b6⟩ := o
  have o := (c.rd).at (k := 1) zj b6; obtain ⟨ct, aq, dl, f0⟩ := o
  refine mp 14 rfl (pt ct (aq + a * 1)) (.inl zk) (yJ (k := .i64) d a _ ct aq xC dl (by (simp only [yX, List.length_set] at *; omega)) zk zk) (hq := (zA zG)) (yH 15 zk (yR 15 rfl ?_ rfl))
  refine yW a 0 ct aq e1 al (I3 al) c zj b6 dl zk zk rfl zk zk rfl ?_
  intro hu ej bp
  replace p := p.tg n bp c
  replace n := Nat.le_trans n (bp.size)
  replace c := ej
  have g2 : (List.set (List.set ys y aj) a al)[a]? = some al := xA b6
  have eS := xU ae b7
  replace c := c.cast eS; clear eS
  refine zS ?_
  refine ⟨rfl, .inl zk, yT zk (zD (wR (zJ (zK (zK (nQ (yA (yK [(N6 y), (.bool false)] (hd := t) ?_))))))))⟩
  replace r := ((r.trans2 (Ch.of_below ar) (fun _ h => h.elim)).trans2 (Ch.of_grown b0) (fun k e => u k e)).trans2 (Ch.of_grown bp) (fun k e => u k e)
  exact ⟨(swp ys y a), y, false, rfl, c, (by exact .swap _ _ i4 zo zo zo), zo, (by exact y5.mid zo zo zo zo), r⟩
 intro ik
 refine nQ (zF (zW (zD (yC (xD 13 16 zk zk zk ?_)))))
 intro iq a2
 replace p := p.trans (a2.mono n)
 replace n := Nat.le_trans n (a2.size)
 refine ⟨fun w => (Rd w encI32 d ys), ?_⟩
 replace c := c.below a2
 refine mp 0 rfl d (.inr c.rd) zg (hq := (zA (zC (zA (zC (zA zG)))))) (mp 1 rfl (N6 ib) (.inr c.rd) zg (hq := (zA (zC (zA (zC (zA zG)))))) (mp 2 rfl d (.inr c.rd) zg (hq := (zA (zC (zA (zC (zA zG)))))) (mp 3 rfl (N6 y) (.inr c.rd) zg (hq := (zA (zC (zA (zC (zA zG)))))) (mp 4 rfl d (.inr c.rd) zg (hq := (zA (zC (zA (zC (zA zG)))))) (mp 5 rfl (N6 y) (.inr c.rd) zg (hq := (zA (zC (zA (zC (zA zG)))))) ?_)))))
 have o := yB ys y zo; obtain ⟨ah, b9⟩ := o
 have o := (c.rd).at (k := 1) zj b9; obtain ⟨dx, ap, dh, g1⟩ := o
 refine mp 6 rfl (pt dx (ap + y * 1)) (.inr c.rd) (yJ (k := .i64) d y _ dx ap xC dh zo zk zk) (hq := (zA (zC (zA (zC (zA zG)))))) (mt 7 [7, 12, 13, 14, 15] rfl (I3 ah) c.rd (yQ dx (ap + y * 1) (I3 ah) zk zf (fun w2 h2 => Rd.later (k := 1) h2 zj dh b9 0 _ rfl)) (hq := (zA (zC (zA (zC (zA zG)))))) (mp 8 rfl d (.inr c.rd) zg (hq := (zA (zC (zA (zC (zA zG)))))) (mp 9 rfl (N6 ib) (.inr c.rd) zg (hq := (zA (zC (zA (zC (zA zG)))))) ?_)))
 have o := yB ys ib zo; obtain ⟨ak, ag⟩ := o
 have o := (c.rd).at (k := 1) zj ag; obtain ⟨c7, bd, da, fy⟩ := o
 refine mp 10 rfl (pt c7 (bd + ib * 1)) (.inr c.rd) (yJ (k := .i64) d ib _ c7 bd xC da zo zk zk) (hq := (zA (zC (zA (zC (zA zG)))))) (mt 11 [11, 12, 13, 14, 15] rfl (I3 ak) c.rd (yQ c7 (bd + ib * 1) (I3 ak) zk zf (fun w2 h2 => Rd.later (k := 1) h2 zj da ag 0 _ rfl)) (hq := (zA (zC (zA (zC (zA zG)))))) ?_)
 have o := (c.rd).at (k := 1) zj ag; obtain ⟨dw, bg, du, f1⟩ := o
 refine mp 12 rfl (pt dw (bg + ib * 1)) (.inr c.rd) (yJ (k := .i64) d ib _ dw bg xC du zo zk zk) (hq := (zA (zC (zA (zC (zA zG)))))) (yH 13 zk (yR 13 rfl ?_ rfl))
 refine yW ib 0 dw bg ak ah (I3 ah) c zj ag du zk zk rfl zk zk rfl ?_
 intro hy ey bq
 replace p := p.tg n bq c
 replace n := Nat.le_trans n (bq.size)
 replace c := ey
 have f9 : (List.set ys ib ah)[ib]? = some ah := xA ag
 refine zS ?_
 refine ⟨rfl, .inl zk, ?_⟩
 have o := yB (List.set ys ib ah) y (by (simp only [yX, List.length_set] at *; omega)); obtain ⟨fj, bz⟩ := o
 have o := (c.rd).at (k := 1) zj bz; obtain ⟨cv, a5, d0, gy⟩ := o
 refine mp 14 rfl (pt cv (a5 + y * 1)) (.inl zk) (yJ (k := .i64) d y _ cv a5 xC d0 (by (simp only [yX, List.length_set] at *; omega)) zk zk) (hq := (zA (zC (zA (zC (zA zG)))))) (yH 15 zk (yR 15 rfl ?_ rfl))
 refine yW y 0 cv a5 fj ak (I3 ak) c zj bz d0 zk zk rfl zk zk rfl ?_
 intro hn ee bu
 replace p := p.tg n bu c
 replace n := Nat.le_trans n (bu.size)
 replace c := ee
 have gn : (List.set (List.set ys ib ah) y ak)[y]? = some ak := xA bz
 have eS := xU ag b9
 replace c := c.cast eS; clear eS
 refine zS ?_
 refine ⟨rfl, .inl zk, yT zk (zD (wR (zJ (xR ib 1 (zK (nQ (zY (zJ (zsb y 1 (zK (zS (zL ?_))))))))))))⟩
 have ez : ib < y := lt_of_el2 (l := ys) (a := a) zo (x6.resolve_left zo) (y6.resolve_left zo)
 replace r := ((r.trans2 (Ch.of_below a2) (fun _ h => h.elim)).trans2 (Ch.of_grown bq) (fun k e => u k e)).trans2 (Ch.of_grown bu) (fun k e => u k e)
 refine zD ⟨_, zo, (ib + 1), (y - 1), (swp ys ib y), rfl, t, zk, c, p, r, n, zo, ?_, ?_, ?_⟩
 ·rw [yX]; exact i3
 ·exact .swap _ _ i4 zo zo zo
 exact y5.swap zo ez zo zo (x6.resolve_left zo) (y6.resolve_left zo)
end Go.Proofs.YtddnhlobnembaaaGreatDoor
end

/- === Wcsz === -/
section
/- Walks, written by my program walk.py out of the specification csz.py: each theorem says what one function returns and that it leaves memory as it was. -/
namespace Go.Proofs.YtddnhlobnembaaaGreatDoor
open Go Go.RowKit Go.FK _root_.Go.Proofs.Tryz
set_option maxHeartbeats 4000000
set_option maxRecDepth 100000
theorem c_partins (B_ : Nat) (d : Value) (s : List (Int)) (a : Nat) (b : Nat) (w : World) (hs0 : B_ ≤ w.heap.size) (c : Row w B_ 21 1 encI32 d s) (h1 : a < b) (h2 : b ≤ s.length) (h3 : s.length ≤ 2305843009213693951) (hlow : Low s a b) :
  Calls Tryz.prog 133 #[d, (N6 a), (N6 b)] w (Ret fun v w' => ∃ (ys : List (Int)) (q : Bool), v = (.bool q) ∧ Row w' B_ 21 1 encI32 d ys ∧ (Sw a b s ys) ∧ (q = true → Srt ys a b) ∧ Ch (fun k => Value.ownBlock d = some k) w w') := by
 refine wO 133 func133 rfl ?_
 have p := Below.refl B_ w
 have l : B_ ≤ (World.heap w).size := hs0
 have y := Ch.refl (fun k => Value.ownBlock d = some k) w
 have u : ∀ g, Value.ownBlock d = some g → (World.heap w).size ≤ g ∨ (fun k => Value.ownBlock d = some k) g := fun g h => .inr h
 refine wR (zK (nR (zJ (xR a 1 (zK (nW (wR (zK (nQ (yF (xG (fun m s0 w0 => ∃ (i : Nat) (k : Nat) (ys : List Int), (m = 5 - k) ∧ (s0.ds = []) ∧ ([0, 1, 2, 7, 8].map s0.f = [d, (N6 a), (N6 b), (N6 i), (N6 k)]) ∧ (Row w0 B_ 21 1 encI32 d ys) ∧ (Below B_ w w0) ∧ (Ch (fun k => Value.ownBlock d = some k) w w0) ∧ (B_ ≤ w0.heap.size) ∧ (a < i ∧ i ≤ b ∧ k ≤ 5) ∧ (ys.length = s.length) ∧ (Sw a b s ys) ∧ (Srt ys a i)) _ ⟨(a + 1), 0, s, rfl, zk, zk, c, p, y, l, zo, rfl, .refl, (srt_nil zo)⟩ ?_)))))))))))
 rintro m1 s2 w3 ⟨i, k, ys, hm, r, ah, c, p, y, l, i1, i3, i4, i5⟩
 refine yZ ah (yC (wR (zJ (nLt k 5 ?_ ?_))))
 ·intro h4
  refine nQ (zT (zW (zD (yC (yF (W_cut (fun s0 w0 => ∃ (n : Nat), (s0.ds = []) ∧ ([0, 1, 2, 8, 7].map s0.f = [d, (N6 a), (N6 b), (N6 k), (N6 n)]) ∧ (Row w0 B_ 21 1 encI32 d ys) ∧ (Below B_ w w0) ∧ (Ch (fun k => Value.ownBlock d = some k) w w0) ∧ (B_ ≤ w0.heap.size) ∧ (a < n ∧ n ≤ b ∧ i ≤ n) ∧ (Srt ys a n) ∧ (n < b → el ys n < el ys (n - 1)) ∧ (Sw a b s ys)) ?_ ?_))))))
  ·refine yF (xG (fun m s0 w0 => ∃ (i2 : Nat), (m = b - i2) ∧ (s0.ds = []) ∧ ([0, 1, 2, 8, 7].map s0.f = [d, (N6 a), (N6 b), (N6 k), (N6 i2)]) ∧ (Row w0 B_ 21 1 encI32 d ys) ∧ (Below B_ w w0) ∧ (Ch (fun k => Value.ownBlock d = some k) w w0) ∧ (B_ ≤ w0.heap.size) ∧ (a < i2 ∧ i2 ≤ b ∧ i ≤ i2) ∧ (Srt ys a i2)) _ ⟨i, rfl, r, zk, c, p, y, l, zo, i5⟩ ?_)
   rintro m5 s6 w7 ⟨i2, hm, r, ah, c, p, y, l, m1, m5⟩
   refine yZ ah (yC (yC (yP zk zk (zU (zU (xB .i64 ((i2 : Nat) : Int) ((b : Nat) : Int) (i2 < b) rfl (cmpN_lt i2 b) zk zk ?_ ?_))))))
   ·intro h8
    replace h8 : i2 < b := by omega
    refine zU (qw (zU (qw (zU (qw ?_)))))
    have o := yB ys i2 zo; obtain ⟨x9, bz⟩ := o
    have o := (c.rd).at (k := 1) zj bz
    obtain ⟨c0, b9, c9, cw⟩ := o
    refine yM (k := .i64) d i2 _ c0 b9 xC c9 zo zk zk (qw (zX c0 (b9 + i2 * 1) (I3 x9) zk zf (cw 0 _ rfl) (qw (zU (qw (zU (qw (Lq_subN i2 1 zo zo zk zk (qw ?_)))))))))
    have o := yB ys (i2 - 1) zo; obtain ⟨b8, bw⟩ := o
    have o := (c.rd).at (k := 1) zj bw
    obtain ⟨c6, bq, dg, df⟩ := o
    refine yM (k := .i64) d (i2 - 1) _ c6 bq xC dg zo zk zk (qw (zX c6 (bq + (i2 - 1) * 1) (I3 b8) zk zf (df 0 _ rfl) (qw (xE 134 [(I3 x9), (I3 b8)] (.bool (decide (x9 < b8))) zg (fun wq hbq => qO x9 b8 wq ) (yL (decide (x9 < b8)) ?_ ?_)))))
    ·intro ef
     have ea := el_lt bz bw ef
     refine qw (xF true zk (qT (yG ?_)))
     intro fu bj
     replace p := p.trans (bj.mono l)
     replace l := Nat.le_trans l (bj.size)
     refine zD (zF (yU (zV (zV (yI ?_)))))
     replace y := y.trans2 (Ch.of_below bj) (fun _ h => h.elim)
     replace c := c.below bj
     refine zD ⟨i2, r, zk, c, p, y, l, zo, ?_, ?_, ?_⟩
     ·exact m5
     ·(intro; omega)
     exact i4
    intro d4
    have dz := el_le bz bw d4
    refine qw (xF false zk (qT (yG ?_)))
    intro fn bl
    replace p := p.trans (bl.mono l)
    replace l := Nat.le_trans l (bl.size)
    refine zD (zT (zW (zD (yF (zY (zJ (xR i2 1 (zK (zS (zL ?_))))))))))
    replace y := y.trans2 (Ch.of_below bl) (fun _ h => h.elim)
    replace c := c.below bl
    exact zD ⟨_, zo, (i2 + 1), rfl, r, zk, c, p, y, l, zo, m5.snoc zo za⟩
   intro d8
   replace d8 : b ≤ i2 := by omega
   refine zU (qs (qs (qs (qs (qs (qs (qs (qs (qs (qs (qs (qF (yG ?_)))))))))))))
   intro fh bc
   replace p := p.trans (bc.mono l)
   replace l := Nat.le_trans l (bc.size)
   refine zD (zF (yU (zV (zV (yI ?_)))))
   replace y := y.trans2 (Ch.of_below bc) (fun _ h => h.elim)
   replace c := c.below bc
   refine zD ⟨i2, r, zk, c, p, y, l, zo, ?_, ?_, ?_⟩
   ·exact m5
   ·(intro; omega)
   exact i4
  rintro fi fd ⟨n, r, ah, c, p, y, l, n1, n5, n6, n4⟩
  refine yZ ah (yC (wR (zJ (zJ (nEq n b ?_ ?_)))))
  ·intro fv
   refine nQ (zT (wR (zK (nQ (yA (zI (zR (zI (zI (zR (zI (yK [(.bool true)] (hd := r) ?_))))))))))))
   exact ⟨ys, true, rfl, c, (by first | exact i4 | exact n4), (by exact (fun _ => n5.at zo)), y⟩
  intro fx
  refine nQ (zF (zW (zD (yC (wR (zJ (zJ (zsb b a (nLt (b - a) 50 ?_ ?_)))))))))
  ·intro ft
   refine nQ (zT (wR (zK (nQ (yA (zI (zR (zI (zI (zR (zI (yK [(.bool false)] (hd := r) ?_))))))))))))
   exact ⟨ys, false, rfl, c, (by first | exact i4 | exact n4), (by exact (fun h => by cases h)), y⟩
  intro fl
  refine nQ (zF (zW (zD (yC (xD 15 18 zk zk zk ?_)))))
  intro ff ax
  replace p := p.trans (ax.mono l)
  replace l := Nat.le_trans l (ax.size)
  refine ⟨fun w => (Rd w encI32 d ys), ?_⟩
  replace c := c.below ax
  refine mp 0 rfl d (.inr c.rd) zg (hq := (zA (zC (zA (zA (zC (zA zG))))))) (mp 1 rfl (N6 n) (.inr c.rd) zg (hq := (zA (zC (zA (zA (zC (zA zG))))))) (mp 2 rfl d (.inr c.rd) zg (hq := (zA (zC (zA (zA (zC (zA zG))))))) (mp 3 rfl (N6 n) (.inr c.rd) zg (hq := (zA (zC (zA (zA (zC (zA zG))))))) (mp 4 rfl (N6 (n - 1)) (.inr c.rd) (fun w2 _ => RI_subN n 1 zo zo zk zk w2) (hq := (zA (zC (zA (zA (zC (zA zG))))))) (mp 5 rfl d (.inr c.rd) zg (hq := (zA (zC (zA (zA (zC (zA zG))))))) (mp 6 rfl (N6 n) (.inr c.rd) zg (hq := (zA (zC (zA (zA (zC (zA zG))))))) (mp 7 rfl (N6 (n - 1)) (.inr c.rd) (fun w2 _ => RI_subN n 1 zo zo zk zk w2) (hq := (zA (zC (zA (zA (zC (zA zG))))))) ?_)))))))
  have o := yB ys (n - 1) zo; obtain ⟨ay, b6⟩ := o
  have o := (c.rd).at (k := 1) zj b6; obtain ⟨cs, a6, cb, ev⟩ := o
  refine mp 8 rfl (pt cs (a6 + (n - 1) * 1)) (.inr c.rd) (yJ (k := .i64) d (n - 1) _ cs a6 xC cb zo zk zk) (hq := (zA (zC (zA (zA (zC (zA zG))))))) (mt 9 [9, 14, 15, 16, 17] rfl (I3 ay) c.rd (yQ cs (a6 + (n - 1) * 1) (I3 ay) zk zf (fun w2 h2 => Rd.later (k := 1) h2 zj cb b6 0 _ rfl)) (hq := (zA (zC (zA (zA (zC (zA zG))))))) (mp 10 rfl d (.inr c.rd) zg (hq := (zA (zC (zA (zA (zC (zA zG))))))) (mp 11 rfl (N6 n) (.inr c.rd) zg (hq := (zA (zC (zA (zA (zC (zA zG))))))) ?_)))
  have o := yB ys n zo; obtain ⟨a1, aj⟩ := o
  have o := (c.rd).at (k := 1) zj aj; obtain ⟨cn, a7, cd, e5⟩ := o
  refine mp 12 rfl (pt cn (a7 + n * 1)) (.inr c.rd) (yJ (k := .i64) d n _ cn a7 xC cd zo zk zk) (hq := (zA (zC (zA (zA (zC (zA zG))))))) (mt 13 [13, 14, 15, 16, 17] rfl (I3 a1) c.rd (yQ cn (a7 + n * 1) (I3 a1) zk zf (fun w2 h2 => Rd.later (k := 1) h2 zj cd aj 0 _ rfl)) (hq := (zA (zC (zA (zA (zC (zA zG))))))) ?_)
  have o := (c.rd).at (k := 1) zj aj; obtain ⟨co, a4, ch, et⟩ := o
  refine mp 14 rfl (pt co (a4 + n * 1)) (.inr c.rd) (yJ (k := .i64) d n _ co a4 xC ch zo zk zk) (hq := (zA (zC (zA (zA (zC (zA zG))))))) (yH 15 zk (yR 15 rfl ?_ rfl))
  refine yW n 0 co a4 a1 ay (I3 ay) c zj aj ch zk zk rfl zk zk rfl ?_
  intro fj dh be
  replace p := p.tg l be c
  replace l := Nat.le_trans l (be.size)
  replace c := dh
  have e4 : (List.set ys n ay)[n]? = some ay := xA aj
  refine zS ?_
  refine ⟨rfl, .inl zk, ?_⟩
  have o := yB (List.set ys n ay) (n - 1) (by (simp only [yX, List.length_set] at *; omega)); obtain ⟨d3, bs⟩ := o
  have o := (c.rd).at (k := 1) zj bs; obtain ⟨ci, az, cg, e8⟩ := o
  refine mp 16 rfl (pt ci (az + (n - 1) * 1)) (.inl zk) (yJ (k := .i64) d (n - 1) _ ci az xC cg (by (simp only [yX, List.length_set] at *; omega)) zk zk) (hq := (zA (zC (zA (zA (zC (zA zG))))))) (yH 17 zk (yR 17 rfl ?_ rfl))
  refine yW (n - 1) 0 ci az d3 a1 (I3 a1) c zj bs cg zk zk rfl zk zk rfl ?_
  intro fr cz bd
  replace p := p.tg l bd c
  replace l := Nat.le_trans l (bd.size)
  replace c := cz
  have ep : (List.set (List.set ys n ay) (n - 1) a1)[(n - 1)]? = some a1 := xA bs
  have eS := xU aj b6
  replace c := c.cast eS; clear eS
  refine zS ?_
  refine ⟨rfl, .inl zk, yT zk (zD (W_cut (fun s0 w0 => ∃ (yb : List Int), (s0.ds = []) ∧ ([0, 1, 2, 7, 8].map s0.f = [d, (N6 a), (N6 b), (N6 n), (N6 k)]) ∧ (Row w0 B_ 21 1 encI32 d yb) ∧ (Below B_ w w0) ∧ (Ch (fun k => Value.ownBlock d = some k) w w0) ∧ (B_ ≤ w0.heap.size) ∧ (yb.length = s.length) ∧ (Sw a b s yb) ∧ (Srt yb a n)) ?_ ?_))⟩
  ·refine wR (zJ (zJ (zsb n a (nGe (n - a) 2 ?_ ?_))))
   ·intro fk
    refine nQ (zT (wR (zJ (zsb n 1 (zK (nQ (yF ?_)))))))
    replace y := ((y.trans2 (Ch.of_below ax) (fun _ h => h.elim)).trans2 (Ch.of_grown be) (fun k e => u k e)).trans2 (Ch.of_grown bd) (fun k e => u k e)
    refine xG (fun m s0 w0 => ∃ (j : Nat) (zs : List Int), (m = j) ∧ (s0.ds = []) ∧ ([0, 1, 2, 7, 8, 9].map s0.f = [d, (N6 a), (N6 b), (N6 n), (N6 k), (N6 j)]) ∧ (Row w0 B_ 21 1 encI32 d zs) ∧ (Below B_ w w0) ∧ (Ch (fun k => Value.ownBlock d = some k) w w0) ∧ (B_ ≤ w0.heap.size) ∧ (a ≤ j ∧ j + 1 ≤ n) ∧ (zs.length = s.length) ∧ (Sw a b s zs) ∧ (Ins zs a (n - 1) j)) _ ⟨(n - 1), (swp ys n (n - 1)), rfl, r, zk, c, p, y, l, zo, ((yX _ _ _).trans i3), (.swap _ _ n4 zo zo zo), (Ins.from n5 zo zo)⟩ ?_
    rintro fo fp fg ⟨j, zs, hm, r, ah, c, p, y, l, p1, p3, p4, p5⟩
    refine yZ ah (yC (wR (zJ (nGe j 1 ?_ ?_))))
    ·intro fw
     refine nQ (zT (zW (zD (yC (yF (yC (yC (yP zk zk (zU (zU ?_))))))))))
     have o := yB zs j zo; obtain ⟨af, ac⟩ := o
     have o := (c.rd).at (k := 1) zj ac
     obtain ⟨dd, b0, cx, c8⟩ := o
     refine yM (k := .i64) d j _ dd b0 xC cx zo zk zk (zX dd (b0 + j * 1) (I3 af) zk zf (c8 0 _ rfl) (zU (zU (Lq_subN j 1 zo zo zk zk ?_))))
     have o := yB zs (j - 1) zo; obtain ⟨ad, ai⟩ := o
     have o := (c.rd).at (k := 1) zj ai
     obtain ⟨c2, b7, db, dc⟩ := o
     refine yM (k := .i64) d (j - 1) _ c2 b7 xC db zo zk zk (zX c2 (b7 + (j - 1) * 1) (I3 ad) zk zf (dc 0 _ rfl) (xE 134 [(I3 af), (I3 ad)] (.bool (decide (af < ad))) zg (fun wq hbq => qO af ad wq ) (yL (decide (af < ad)) ?_ ?_)))
     ·intro eg
      have eh := el_lt ac ai eg
      refine xF true zk (yG ?_)
      intro fe bf
      replace p := p.trans (bf.mono l)
      replace l := Nat.le_trans l (bf.size)
      refine zD (zF (zW (zD (xD 15 18 zk zk zk ?_))))
      intro fc bb
      replace p := p.trans (bb.mono l)
      replace l := Nat.le_trans l (bb.size)
      refine ⟨fun w => (Rd w encI32 d zs), ?_⟩
      replace c := (c.below bf).below bb
      refine mp 0 rfl d (.inr c.rd) zg (hq := (zC (zA (zA (zC (zA (zC (zA (zA (zC (zA zG))))))))))) (mp 1 rfl (N6 j) (.inr c.rd) zg (hq := (zC (zA (zA (zC (zA (zC (zA (zA (zC (zA zG))))))))))) (mp 2 rfl d (.inr c.rd) zg (hq := (zC (zA (zA (zC (zA (zC (zA (zA (zC (zA zG))))))))))) (mp 3 rfl (N6 j) (.inr c.rd) zg (hq := (zC (zA (zA (zC (zA (zC (zA (zA (zC (zA zG))))))))))) (mp 4 rfl (N6 (j - 1)) (.inr c.rd) (fun w2 _ => RI_subN j 1 zo zo zk zk w2) (hq := (zC (zA (zA (zC (zA (zC (zA (zA (zC (zA zG))))))))))) (mp 5 rfl d (.inr c.rd) zg (hq := (zC (zA (zA (zC (zA (zC (zA (zA (zC (zA zG))))))))))) (mp 6 rfl (N6 j) (.inr c.rd) zg (hq := (zC (zA (zA (zC (zA (zC (zA (zA (zC (zA zG))))))))))) (mp 7 rfl (N6 (j - 1)) (.inr c.rd) (fun w2 _ => RI_subN j 1 zo zo zk zk w2) (hq := (zC (zA (zA (zC (zA (zC (zA (zA (zC (zA zG))))))))))) ?_)))))))
      have o := (c.rd).at (k := 1) zj ai; obtain ⟨cj, ba, ca, ee⟩ := o
      refine mp 8 rfl (pt cj (ba + (j - 1) * 1)) (.inr c.rd) (yJ (k := .i64) d (j - 1) _ cj ba xC ca zo zk zk) (hq := (zC (zA (zA (zC (zA (zC (zA (zA (zC (zA zG))))))))))) (mt 9 [9, 14, 15, 16, 17] rfl (I3 ad) c.rd (yQ cj (ba + (j - 1) * 1) (I3 ad) zk zf (fun w2 h2 => Rd.later (k := 1) h2 zj ca ai 0 _ rfl)) (hq := (zC (zA (zA (zC (zA (zC (zA (zA (zC (zA zG))))))))))) (mp 10 rfl d (.inr c.rd) zg (hq := (zC (zA (zA (zC (zA (zC (zA (zA (zC (zA zG))))))))))) (mp 11 rfl (N6 j) (.inr c.rd) zg (hq := (zC (zA (zA (zC (zA (zC (zA (zA (zC (zA zG))))))))))) ?_)))
      have o := (c.rd).at (k := 1) zj ac; obtain ⟨b1, al, bo, eb⟩ := o
      refine mp 12 rfl (pt b1 (al + j * 1)) (.inr c.rd) (yJ (k := .i64) d j _ b1 al xC bo zo zk zk) (hq := (zC (zA (zA (zC (zA (zC (zA (zA (zC (zA zG))))))))))) (mt 13 [13, 14, 15, 16, 17] rfl (I3 af) c.rd (yQ b1 (al + j * 1) (I3 af) zk zf (fun w2 h2 => Rd.later (k := 1) h2 zj bo ac 0 _ rfl)) (hq := (zC (zA (zA (zC (zA (zC (zA (zA (zC (zA zG))))))))))) ?_)
      have o := (c.rd).at (k := 1) zj ac; obtain ⟨b5, ao, bm, d2⟩ := o
      refine mp 14 rfl (pt b5 (ao + j * 1)) (.inr c.rd) (yJ (k := .i64) d j _ b5 ao xC bm zo zk zk) (hq := (zC (zA (zA (zC (zA (zC (zA (zA (zC (zA zG))))))))))) (yH 15 zk (yR 15 rfl ?_ rfl))
      refine yW j 0 b5 ao af ad (I3 ad) c zj ac bm zk zk rfl zk zk rfl ?_
      intro ew cr a5
      replace p := p.tg l a5 c
      replace l := Nat.le_trans l (a5.size)
      replace c := cr
      have d6 : (List.set zs j ad)[j]? = some ad := xA ac
      refine zS ?_
      refine ⟨rfl, .inl zk, ?_⟩
      have o := yB (List.set zs j ad) (j - 1) (by (simp only [yX, List.length_set] at *; omega)); obtain ⟨de, a2⟩ := o
      have o := (c.rd).at (k := 1) zj a2; obtain ⟨bt, av, bx, d5⟩ := o
      refine mp 16 rfl (pt bt (av + (j - 1) * 1)) (.inl zk) (yJ (k := .i64) d (j - 1) _ bt av xC bx (by (simp only [yX, List.length_set] at *; omega)) zk zk) (hq := (zC (zA (zA (zC (zA (zC (zA (zA (zC (zA zG))))))))))) (yH 17 zk (yR 17 rfl ?_ rfl))
      refine yW (j - 1) 0 bt av de af (I3 af) c zj a2 bx zk zk rfl zk zk rfl ?_
      intro em cl a8
      replace p := p.tg l a8 c
      replace l := Nat.le_trans l (a8.size)
      replace c := cl
      have d0 : (List.set (List.set zs j ad) (j - 1) af)[(j - 1)]? = some af := xA a2
      have eS := xU ac ai
      replace c := c.cast eS; clear eS
      refine zS ?_
      refine ⟨rfl, .inl zk, yT zk (zL (zD (zY (zJ (zsb j 1 (zK (zS ?_)))))))⟩
      have fs : a < j := Low.lt (hlow.keep p4) zo zo zo za
      replace y := (((y.trans2 (Ch.of_below bf) (fun _ h => h.elim)).trans2 (Ch.of_below bb) (fun _ h => h.elim)).trans2 (Ch.of_grown a5) (fun k e => u k e)).trans2 (Ch.of_grown a8) (fun k e => u k e)
      refine zD ⟨_, zo, (j - 1), (swp zs j (j - 1)), rfl, r, zk, c, p, y, l, zo, ?_, ?_, ?_⟩
      ·rw [yX]; exact p3
      ·exact .swap _ _ p4 zo zo zo
      exact p5.step zo zo zo za
     intro c4
     have dl := el_le ac ai c4
     refine xF false zk (yG ?_)
     intro eu au
     replace p := p.trans (au.mono l)
     replace l := Nat.le_trans l (au.size)
     refine zD (zT (yU (zV (zxo (zV (zV (yI ?_)))))))
     replace y := y.trans2 (Ch.of_below au) (fun _ h => h.elim)
     replace c := c.below au
     refine zD ⟨zs, r, zk, c, p, y, l, ?_, ?_, ?_⟩
     ·first | exact p3 | (rw [yX]; exact i3)
     ·exact p4
     exact (p5.done zo (.inr za)).at zo
    intro e2
    refine nQ (zF (yU (zV (zV (yI (zD ⟨zs, r, zk, c, p, y, l, ?_, ?_, ?_⟩))))))
    ·first | exact p3 | (rw [yX]; exact i3)
    ·exact p4
    exact (p5.done zo (.inl zo)).at zo
   intro ez
   refine nQ (zF (zW ?_))
   replace y := ((y.trans2 (Ch.of_below ax) (fun _ h => h.elim)).trans2 (Ch.of_grown be) (fun k e => u k e)).trans2 (Ch.of_grown bd) (fun k e => u k e)
   refine zD ⟨(swp ys n (n - 1)), r, zk, c, p, y, l, ?_, ?_, ?_⟩
   ·first | exact p3 | (rw [yX]; exact i3)
   ·(exact .swap _ _ n4 zo zo zo)
   exact srt_nil zo
  rintro fa en ⟨yb, r, ah, c, p, y, l, o3, o4, o5⟩
  refine yZ ah (wR (zJ (zJ (zsb b n (nGe (b - n) 2 ?_ ?_)))))
  ·intro e3
   refine nQ (zT (wR (zJ (xR n 1 (zK (nQ (yF (xG (fun m s0 w0 => ∃ (t : Nat) (ts : List Int), (m = b - t) ∧ (s0.ds = []) ∧ ([0, 1, 2, 7, 8, 10].map s0.f = [d, (N6 a), (N6 b), (N6 n), (N6 k), (N6 t)]) ∧ (Row w0 B_ 21 1 encI32 d ts) ∧ (Below B_ w w0) ∧ (Ch (fun k => Value.ownBlock d = some k) w w0) ∧ (B_ ≤ w0.heap.size) ∧ (n < t ∧ t ≤ b) ∧ (ts.length = s.length) ∧ (Sw a b s ts) ∧ (Srt ts a n)) _ ⟨(n + 1), yb, rfl, r, zk, c, p, y, l, zo, o3, o4, o5⟩ ?_))))))))
   rintro e7 ey ej ⟨t, ts, hm, r, ah, c, p, y, l, t1, t3, t4, t5⟩
   refine yZ ah (yC (wR (zJ (zJ (nLt t b ?_ ?_)))))
   ·intro e6
    refine nQ (zT (zW (zD (yC (yF (yC (yC (yP zk zk (zU (zU ?_))))))))))
    have o := yB ts t zo; obtain ⟨ab, aa⟩ := o
    have o := (c.rd).at (k := 1) zj aa
    obtain ⟨cf, bg, cp, cq⟩ := o
    refine yM (k := .i64) d t _ cf bg xC cp zo zk zk (zX cf (bg + t * 1) (I3 ab) zk zf (cq 0 _ rfl) (zU (zU (Lq_subN t 1 zo zo zk zk ?_))))
    have o := yB ts (t - 1) zo; obtain ⟨z, ae⟩ := o
    have o := (c.rd).at (k := 1) zj ae
    obtain ⟨cc, bk, cm, cv⟩ := o
    refine yM (k := .i64) d (t - 1) _ cc bk xC cm zo zk zk (zX cc (bk + (t - 1) * 1) (I3 z) zk zf (cv 0 _ rfl) (xE 134 [(I3 ab), (I3 z)] (.bool (decide (ab < z))) zg (fun wq hbq => qO ab z wq ) (yL (decide (ab < z)) ?_ ?_)))
    ·intro c7
     have dq := el_lt aa ae c7
     refine xF true zk (yG ?_)
     intro fb aw
     replace p := p.trans (aw.mono l)
     replace l := Nat.le_trans l (aw.size)
     refine zD (zF (zW (zD (xD 15 18 zk zk zk ?_))))
     intro es ak
     replace p := p.trans (ak.mono l)
     replace l := Nat.le_trans l (ak.size)
     refine ⟨fun w => (Rd w encI32 d ts), ?_⟩
     replace c := (c.below aw).below ak
     refine mp 0 rfl d (.inr c.rd) zg (hq := (zC (zA (zA (zC (zC (zA (zA (zC (zA zG)))))))))) (mp 1 rfl (N6 t) (.inr c.rd) zg (hq := (zC (zA (zA (zC (zC (zA (zA (zC (zA zG)))))))))) (mp 2 rfl d (.inr c.rd) zg (hq := (zC (zA (zA (zC (zC (zA (zA (zC (zA zG)))))))))) (mp 3 rfl (N6 t) (.inr c.rd) zg (hq := (zC (zA (zA (zC (zC (zA (zA (zC (zA zG)))))))))) (mp 4 rfl (N6 (t - 1)) (.inr c.rd) (fun w2 _ => RI_subN t 1 zo zo zk zk w2) (hq := (zC (zA (zA (zC (zC (zA (zA (zC (zA zG)))))))))) (mp 5 rfl d (.inr c.rd) zg (hq := (zC (zA (zA (zC (zC (zA (zA (zC (zA zG)))))))))) (mp 6 rfl (N6 t) (.inr c.rd) zg (hq := (zC (zA (zA (zC (zC (zA (zA (zC (zA zG)))))))))) (mp 7 rfl (N6 (t - 1)) (.inr c.rd) (fun w2 _ => RI_subN t 1 zo zo zk zk w2) (hq := (zC (zA (zA (zC (zC (zA (zA (zC (zA zG)))))))))) ?_)))))))
     have o := (c.rd).at (k := 1) zj ae; obtain ⟨b2, an, br, ed⟩ := o
     refine mp 8 rfl (pt b2 (an + (t - 1) * 1)) (.inr c.rd) (yJ (k := .i64) d (t - 1) _ b2 an xC br zo zk zk) (hq := (zC (zA (zA (zC (zC (zA (zA (zC (zA zG)))))))))) (mt 9 [9, 14, 15, 16, 17] rfl (I3 z) c.rd (yQ b2 (an + (t - 1) * 1) (I3 z) zk zf (fun w2 h2 => Rd.later (k := 1) h2 zj br ae 0 _ rfl)) (hq := (zC (zA (zA (zC (zC (zA (zA (zC (zA zG)))))))))) (mp 10 rfl d (.inr c.rd) zg (hq := (zC (zA (zA (zC (zC (zA (zA (zC (zA zG)))))))))) (mp 11 rfl (N6 t) (.inr c.rd) zg (hq := (zC (zA (zA (zC (zC (zA (zA (zC (zA zG)))))))))) ?_)))
     have o := (c.rd).at (k := 1) zj aa; obtain ⟨bu, ar, b3, d7⟩ := o
     refine mp 12 rfl (pt bu (ar + t * 1)) (.inr c.rd) (yJ (k := .i64) d t _ bu ar xC b3 zo zk zk) (hq := (zC (zA (zA (zC (zC (zA (zA (zC (zA zG)))))))))) (mt 13 [13, 14, 15, 16, 17] rfl (I3 ab) c.rd (yQ bu (ar + t * 1) (I3 ab) zk zf (fun w2 h2 => Rd.later (k := 1) h2 zj b3 aa 0 _ rfl)) (hq := (zC (zA (zA (zC (zC (zA (zA (zC (zA zG)))))))))) ?_)
     have o := (c.rd).at (k := 1) zj aa; obtain ⟨bv, ap, b4, d1⟩ := o
     refine mp 14 rfl (pt bv (ap + t * 1)) (.inr c.rd) (yJ (k := .i64) d t _ bv ap xC b4 zo zk zk) (hq := (zC (zA (zA (zC (zC (zA (zA (zC (zA zG)))))))))) (yH 15 zk (yR 15 rfl ?_ rfl))
     refine yW t 0 bv ap ab z (I3 z) c zj aa b4 zk zk rfl zk zk rfl ?_
     intro e0 ct a9
     replace p := p.tg l a9 c
     replace l := Nat.le_trans l (a9.size)
     replace c := ct
     have ei : (List.set ts t z)[t]? = some z := xA aa
     refine zS ?_
     refine ⟨rfl, .inl zk, ?_⟩
     have o := yB (List.set ts t z) (t - 1) (by (simp only [yX, List.length_set] at *; omega)); obtain ⟨cy, a3⟩ := o
     have o := (c.rd).at (k := 1) zj a3; obtain ⟨bn, am, bp, dy⟩ := o
     refine mp 16 rfl (pt bn (am + (t - 1) * 1)) (.inl zk) (yJ (k := .i64) d (t - 1) _ bn am xC bp (by (simp only [yX, List.length_set] at *; omega)) zk zk) (hq := (zC (zA (zA (zC (zC (zA (zA (zC (zA zG)))))))))) (yH 17 zk (yR 17 rfl ?_ rfl))
     refine yW (t - 1) 0 bn am cy ab (I3 ab) c zj a3 bp zk zk rfl zk zk rfl ?_
     intro ek ck a0
     replace p := p.tg l a0 c
     replace l := Nat.le_trans l (a0.size)
     replace c := ck
     have d9 : (List.set (List.set ts t z) (t - 1) ab)[(t - 1)]? = some ab := xA a3
     have eS := xU aa ae
     replace c := c.cast eS; clear eS
     refine zS ?_
     refine ⟨rfl, .inl zk, yT zk (zL (zD (zY (zJ (xR t 1 (zK (zS ?_)))))))⟩
     replace y := (((y.trans2 (Ch.of_below aw) (fun _ h => h.elim)).trans2 (Ch.of_below ak) (fun _ h => h.elim)).trans2 (Ch.of_grown a9) (fun k e => u k e)).trans2 (Ch.of_grown a0) (fun k e => u k e)
     refine zD ⟨_, zo, (t + 1), (swp ts t (t - 1)), rfl, r, zk, c, p, y, l, zo, ?_, ?_, ?_⟩
     ·rw [yX]; exact t3
     ·exact .swap _ _ t4 zo zo zo
     exact t5.swp_hi zo zo
    intro da
    have dw := el_le aa ae da
    refine xF false zk (yG ?_)
    intro e9 aq
    replace p := p.trans (aq.mono l)
    replace l := Nat.le_trans l (aq.size)
    refine zD (zT (yU (zV (zxo (zV (zV (yI (zL (zD (zY (zJ (xR k 1 (zK (zS ?_))))))))))))))
    replace y := y.trans2 (Ch.of_below aq) (fun _ h => h.elim)
    replace c := c.below aq
    refine zD ⟨_, zo, n, (k + 1), ts, rfl, r, zk, c, p, y, l, zo, ?_, ?_, ?_⟩
    ·first | exact o3 | exact t3
    ·first | exact o4 | exact t4
    first | exact o5 | exact t5
   intro eo
   refine nQ (zF (yU (zV (zV (yI (zL (zD (zY (zJ (xR k 1 (zK (zS (zD ⟨_, zo, n, (k + 1), ts, rfl, r, zk, c, p, y, l, zo, ?_, ?_, ?_⟩)))))))))))))
   ·first | exact o3 | exact t3
   ·first | exact o4 | exact t4
   first | exact o5 | exact t5
  intro ex
  refine nQ (zF (zW (zL (zD (zY (zJ (xR k 1 (zK (zS (zD ⟨_, zo, n, (k + 1), yb, rfl, r, zk, c, p, y, l, zo, ?_, ?_, ?_⟩))))))))))
  ·first | exact o3 | exact t3
  ·first | exact o4 | exact t4
  first | exact o5 | exact t5
 intro e1
 refine nQ (zF (yU (zV (zV (yI (zD (wR (zK (nQ (yA (yK [(.bool false)] (hd := r) ?_)))))))))))
 exact ⟨ys, false, rfl, c, (by first | exact i4 | exact n4), (by exact (fun h => by cases h)), y⟩
end Go.Proofs.YtddnhlobnembaaaGreatDoor
end

/- === Wcspv === -/
section
/- Walks, written by my program walk.py out of the specification cspv.py: each theorem says what one function returns and that it leaves memory as it was. -/
namespace Go.Proofs.YtddnhlobnembaaaGreatDoor
open Go Go.RowKit Go.FK _root_.Go.Proofs.Tryz
set_option maxHeartbeats 4000000
set_option maxRecDepth 100000
theorem c_order2 (B_ : Nat) (l : Value) (s : List (Int)) (a : Nat) (b : Nat) (c : Nat) (z : Int) (w : World) (hs0 : B_ ≤ w.heap.size) (aa : Row w B_ 21 1 encI32 l s) (d : w.heap[c]? = some (.cells [(I6 z)].toArray 3 (0, 0))) (an : B_ ≤ c) (ha : a < s.length) (hb_ : b < s.length) (hz : 0 ≤ z ∧ z ≤ 1000) :
  Calls Tryz.prog 164 #[l, (N6 a), (N6 b), (pt c 0)] w (Ret fun v w' => ∃ (m1 : Nat) (m2 : Nat) (z2 : Int), v = (.tuple #[(N6 m1), (N6 m2)]) ∧ (m1 = a ∧ m2 = b ∨ m1 = b ∧ m2 = a) ∧ (z ≤ z2 ∧ z2 ≤ z + 1) ∧ w'.heap[c]? = some (.cells [(I6 z2)].toArray 3 (0, 0)) ∧ Ch (fun k => k = c) w w') := by
 refine wO 28 func164 rfl ?_
 have hb := Below.refl B_ w
 have m : B_ ≤ (World.heap w).size := hs0
 have q := Ch.refl (fun k => k = c) w
 have ab : (World.heap w).size ≤ c ∨ (fun k => k = c) c := .inr rfl
 refine wR (zK (zK (nW (yC (yP zk zk (zU (zU ?_)))))))
 have hz := yB s b zo; obtain ⟨y, p⟩ := hz
 have hz := (aa.rd).at (k := 1) zj p
 obtain ⟨g3, n, ai, ag⟩ := hz
 refine yM (k := .i64) l b _ g3 n xC ai zo zk zk (zX g3 (n + b * 1) (I3 y) zk zf (ag 0 _ rfl) (zU (zU ?_)))
 have hz := yB s a zo; obtain ⟨u, o⟩ := hz
 have hz := (aa.rd).at (k := 1) zj o
 obtain ⟨g9, j, t, r⟩ := hz
 refine yM (k := .i64) l a _ g9 j xC t zo zk zk (zX g9 (j + a * 1) (I3 u) zk zf (r 0 _ rfl) (xE 134 [(I3 y), (I3 u)] (.bool (decide (y < u))) zg (fun wq hbq => qO y u wq ) (yL (decide (y < u)) ?_ ?_)))
 ·intro ad
  have ae := el_lt p o ad
  refine yG ?_
  intro al g
  have hb := hb.trans (g.mono m)
  replace m := Nat.le_trans m (g.size)
  have d := zB d g
  refine zD (zT (wR (zJ (zr (pt c 0) (zO 0 d rfl (wP z 1 (z + 1) rfl zk zk (xM _ zh zh) (zr (pt c 0) (z1 0 (I6 (z + 1)) [(I6 (z + 1))] d ?_))))))))
  intro am i
  replace m := Nat.le_trans m (Nat.le_of_eq i.size.symm)
  have d := i.here
  refine nR (zJ (zJ (zK (zK (nQ (yA (zI (yK [(N6 b), (N6 a)] ?_))))))))
  replace q := (q.trans2 (Ch.of_below g) (fun _ h => h.elim)).trans2 (Ch.of_wrote i) (fun k e => e ▸ ab)
  exact ⟨b, a, (z + 1), rfl, zo, zo, d, q⟩
 intro af
 have ah := el_le p o af
 refine yG ?_
 intro ao f
 have hb := hb.trans (f.mono m)
 replace m := Nat.le_trans m (f.size)
 refine zD (zF (zW (zD (wR (zJ (zJ (zK (zK (nQ (yA (yK [(N6 a), (N6 b)] ?_)))))))))))
 replace q := q.trans2 (Ch.of_below f) (fun _ h => h.elim)
 have d := zB d f
 exact ⟨a, b, z, rfl, zo, zo, d, q⟩
theorem c_median (B_ : Nat) (n : Value) (s : List (Int)) (a : Nat) (b : Nat) (c : Nat) (f : Nat) (z : Int) (w : World) (hs0 : B_ ≤ w.heap.size) (i : Row w B_ 21 1 encI32 n s) (h : w.heap[f]? = some (.cells [(I6 z)].toArray 3 (0, 0))) (r : B_ ≤ f) (ha : a < s.length) (hb_ : b < s.length) (hc_ : c < s.length) (hz : 0 ≤ z ∧ z ≤ 500) :
  Calls Tryz.prog 155 #[n, (N6 a), (N6 b), (N6 c), (pt f 0)] w (Ret fun v w' => ∃ (m1 : Nat) (z2 : Int), v = (N6 m1) ∧ (m1 = a ∨ m1 = b ∨ m1 = c) ∧ (z ≤ z2 ∧ z2 ≤ z + 3) ∧ w'.heap[f]? = some (.cells [(I6 z2)].toArray 3 (0, 0)) ∧ Ch (fun k => k = f) w w') := by
 refine wO 36 func155 rfl ?_
 have t := Below.refl B_ w
 have p : B_ ≤ (World.heap w).size := hs0
 have hc := Ch.refl (fun k => k = f) w
 have o : (World.heap w).size ≤ f ∨ (fun k => k = f) f := .inr rfl
 refine wR (zK (nR (zJ (zJ (zJ (zJ (zc (c_order2 0 n s a b f z _ (Nat.zero_le _) i.mono0 h (Nat.zero_le _) zo zo zo) ?_)))))))
 rintro _ w4 ⟨aa, ae, z3, rfl, aq, an, ah, q⟩
 have t := q.below t p (fun k e => e ▸ r)
 replace p := Nat.le_trans p q.size
 have i := i.ch q (fun g e d => (i.ne h zi) (d ▸ e))
 have h := ah
 refine zJ (zr (N6 aa) (zr (N6 ae) (zK (zK (nR (zJ (zJ (zJ (zJ (zc (c_order2 0 n s ae c f z3 _ (Nat.zero_le _) i.mono0 h (Nat.zero_le _) zo zo zo) ?_))))))))))
 rintro _ ar ⟨ac, ab, ag, rfl, am, aj, y, j⟩
 have t := j.below t p (fun k e => e ▸ r)
 replace p := Nat.le_trans p j.size
 have i := i.ch j (fun g e d => (i.ne h zi) (d ▸ e))
 have h := y
 refine zJ (zr (N6 ac) (zr (N6 ab) (zK (zK (nR (zJ (zJ (zJ (zJ (zc (c_order2 0 n s aa ac f ag _ (Nat.zero_le _) i.mono0 h (Nat.zero_le _) zo zo zo) ?_))))))))))
 rintro _ ap ⟨ad, m, af, rfl, al, ak, u, l⟩
 have t := l.below t p (fun k e => e ▸ r)
 replace p := Nat.le_trans p l.size
 have h := u
 refine zJ (zr (N6 ad) (zr (N6 m) (zK (zK (nR (zJ (zK (nQ (yA (yK [(N6 m)] ?_))))))))))
 replace hc := ((hc.trans2 q (fun k e => e ▸ o)).trans2 j (fun k e => e ▸ o)).trans2 l (fun k e => e ▸ o)
 exact ⟨m, af, rfl, zo, zo, h, hc⟩
theorem c_medadj (B_ : Nat) (d : Value) (s : List (Int)) (a : Nat) (b : Nat) (z : Int) (w : World) (hs0 : B_ ≤ w.heap.size) (i : Row w B_ 21 1 encI32 d s) (f : w.heap[b]? = some (.cells [(I6 z)].toArray 3 (0, 0))) (n : B_ ≤ b) (ha : 0 < a ∧ a + 1 < s.length) (hl : s.length ≤ 2305843009213693951) (hz : 0 ≤ z ∧ z ≤ 400) :
  Calls Tryz.prog 154 #[d, (N6 a), (pt b 0)] w (Ret fun v w' => ∃ (m1 : Nat) (z2 : Int), v = (N6 m1) ∧ (a - 1 ≤ m1 ∧ m1 ≤ a + 1) ∧ (z ≤ z2 ∧ z2 ≤ z + 3) ∧ w'.heap[b]? = some (.cells [(I6 z2)].toArray 3 (0, 0)) ∧ Ch (fun k => k = b) w w') := by
 refine wO 15 func154 rfl ?_
 have o := Below.refl B_ w
 have j : B_ ≤ (World.heap w).size := hs0
 have l := Ch.refl (fun k => k = b) w
 have h : (World.heap w).size ≤ b ∨ (fun k => k = b) b := .inr rfl
 refine wR (zK (nR (zJ (zJ (zsb a 1 (zJ (zJ (xR a 1 (zJ (zc (c_median 0 d s (a - 1) a (a + 1) b z _ (Nat.zero_le _) i.mono0 f (Nat.zero_le _) zo zo zo zo) ?_))))))))))
 rintro _ r ⟨g, z2, rfl, q, p, m, c⟩
 have o := c.below o j (fun k e => e ▸ n)
 replace j := Nat.le_trans j c.size
 have f := m
 refine zK (nQ (yA (yK [(N6 g)] ?_)))
 replace l := l.trans2 c (fun k e => e ▸ h)
 exact ⟨g, z2, rfl, zo, zo, f, l⟩
theorem c_pivot (B_ : Nat) (j : Value) (s : List (Int)) (a : Nat) (b : Nat) (w : World) (hs0 : B_ ≤ w.heap.size) (c : Row w B_ 21 1 encI32 j s) (h1 : a + 12 < b) (h2 : b ≤ s.length) (h3 : s.length ≤ 2305843009213693951) :
  Calls Tryz.prog 131 #[j, (N6 a), (N6 b)] w (Ret fun v w' => ∃ (ys : List (Int)) (m : Nat) (h : Int), v = (.tuple #[(N6 m), (I6 h)]) ∧ Row w' B_ 21 1 encI32 j ys ∧ (ys = s) ∧ (a ≤ m ∧ m < b) ∧ Ch (fun k => Value.ownBlock j = some k) w w') := by
 refine wO 57 func131 rfl ?_
 have hb := Below.refl B_ w
 have z : B_ ≤ (World.heap w).size := hs0
 have l := Ch.refl (fun k => Value.ownBlock j = some k) w
 have al : ∀ g, Value.ownBlock j = some g → (World.heap w).size ≤ g ∨ (fun k => Value.ownBlock j = some k) g := fun g h => .inr h
 refine wR (zK (zK (nR (zJ (zJ (zsb b a (zK (nR (zN [(I6 0)] 3 ?_)))))))))
 intro b1 w2 n
 have aa : B_ ≤ b1 := by rw [n.num]; exact z
 have f : (World.heap w).size ≤ b1 ∨ (fun k => Value.ownBlock j = some k) b1 := .inl (by rw [n.num]; exact l.size)
 have hb := hb.trans (n.below.mono z)
 replace z := Nat.le_trans z (n.below.size)
 have i := n.here
 refine nR (zJ (zJ (L_quoN (b - a) 4 zo zo zk zk (L_mulN ((b - a) / 4) 1 zo zk zk (xR a (((b - a) / 4) * 1) (zK (nR (zJ (zJ (L_quoN (b - a) 4 zo zo zk zk (L_mulN ((b - a) / 4) 2 zo zk zk (xR a (((b - a) / 4) * 2) (zK (nR (zJ (zJ (L_quoN (b - a) 4 zo zo zk zk (L_mulN ((b - a) / 4) 3 zo zk zk (xR a (((b - a) / 4) * 3) (zK (nW (wR (zJ (nGe (b - a) 8 ?_ ?_))))))))))))))))))))))))
 ·intro h4
  refine nQ (zT (yC (wR (zJ (nGe (b - a) 50 ?_ ?_)))))
  ·intro h5
   have c := c.below n.below
   refine nQ (zT (wR (zJ (zJ (zc (c_medadj 0 j s (a + (((b - a) / 4) * 1)) b1 0 _ (Nat.zero_le _) c.mono0 i (Nat.zero_le _) zo zo zo) ?_)))))
   replace l := l.trans2 (Ch.of_below n.below) (fun _ h => h.elim)
   rintro _ w8 ⟨ao, z7, rfl, ar, a0, ap, q⟩
   have hb := q.below hb z (fun k e => e ▸ aa)
   replace z := Nat.le_trans z q.size
   have c := c.ch q (fun g e d => (c.ne i zi) (d ▸ e))
   have i := ap
   refine zK (nR (zJ (zJ (zc (c_medadj 0 j s (a + (((b - a) / 4) * 2)) b1 z7 _ (Nat.zero_le _) c.mono0 i (Nat.zero_le _) zo zo zo) ?_))))
   rintro _ a8 ⟨ae, am, rfl, au, aw, aj, t⟩
   have hb := t.below hb z (fun k e => e ▸ aa)
   replace z := Nat.le_trans z t.size
   have c := c.ch t (fun g e d => (c.ne i zi) (d ▸ e))
   have i := aj
   refine zK (nQ (zY (zJ (zJ (zc (c_medadj 0 j s (a + (((b - a) / 4) * 3)) b1 am _ (Nat.zero_le _) c.mono0 i (Nat.zero_le _) zo zo zo) ?_)))))
   rintro _ bb ⟨af, an, rfl, aq, av, ak, u⟩
   have hb := u.below hb z (fun k e => e ▸ aa)
   replace z := Nat.le_trans z u.size
   have c := c.ch u (fun g e d => (c.ne i zi) (d ▸ e))
   have i := ak
   refine zK (nQ (zY (zJ (zJ (zJ (zJ (zc (c_median 0 j s ao ae af b1 an _ (Nat.zero_le _) c.mono0 i (Nat.zero_le _) zo zo zo zo) ?_)))))))
   rintro _ ba ⟨o, ad, rfl, ay, ax, ah, y⟩
   have hb := y.below hb z (fun k e => e ▸ aa)
   replace z := Nat.le_trans z y.size
   have c := c.ch y (fun g e d => (c.ne i zi) (d ▸ e))
   have i := ah
   refine zK (nR (zO 0 i rfl (nQ (yF (wR (qM .i64 ad 0 ?_ ?_))))))
   ·intro bd
    refine zK (nQ (zT (wR (zJ (zK (zK (nQ (yA (zR (yK [(N6 o), (I6 1)] ?_))))))))))
    replace l := (((l.trans2 q (fun k e => e ▸ f)).trans2 t (fun k e => e ▸ f)).trans2 u (fun k e => e ▸ f)).trans2 y (fun k e => e ▸ f)
    exact ⟨s, o, 1, rfl, c, (by rfl), zo, l⟩
   intro a3
   refine zK (nQ (zF (wR (qM .i64 ad 12 ?_ ?_))))
   ·intro a9
    refine zK (nQ (zT (wR (zJ (zK (zK (nQ (yA (zR (yK [(N6 o), (I6 2)] ?_))))))))))
    replace l := (((l.trans2 q (fun k e => e ▸ f)).trans2 t (fun k e => e ▸ f)).trans2 u (fun k e => e ▸ f)).trans2 y (fun k e => e ▸ f)
    exact ⟨s, o, 2, rfl, c, (by rfl), zo, l⟩
   intro a7
   refine zK (nQ (zF (wR (zJ (zK (zK (nQ (yA (zR (yK [(N6 o), (I6 0)] ?_))))))))))
   replace l := (((l.trans2 q (fun k e => e ▸ f)).trans2 t (fun k e => e ▸ f)).trans2 u (fun k e => e ▸ f)).trans2 y (fun k e => e ▸ f)
   exact ⟨s, o, 0, rfl, c, (by rfl), zo, l⟩
  intro bc
  have c := c.below n.below
  refine nQ (zF (zW (zD (zY (zJ (zJ (zJ (zJ (zc (c_median 0 j s (a + (((b - a) / 4) * 1)) (a + (((b - a) / 4) * 2)) (a + (((b - a) / 4) * 3)) b1 0 _ (Nat.zero_le _) c.mono0 i (Nat.zero_le _) zo zo zo zo) ?_)))))))))
  replace l := l.trans2 (Ch.of_below n.below) (fun _ h => h.elim)
  rintro _ a2 ⟨p, ai, rfl, a1, az, ag, r⟩
  have hb := r.below hb z (fun k e => e ▸ aa)
  replace z := Nat.le_trans z r.size
  have c := c.ch r (fun g e d => (c.ne i zi) (d ▸ e))
  have i := ag
  refine zK (nR (zO 0 i rfl (nQ (yF (wR (qM .i64 ai 0 ?_ ?_))))))
  ·intro a6
   refine zK (nQ (zT (wR (zJ (zK (zK (nQ (yA (zR (yK [(N6 p), (I6 1)] ?_))))))))))
   replace l := l.trans2 r (fun k e => e ▸ f)
   exact ⟨s, p, 1, rfl, c, (by rfl), zo, l⟩
  intro a4
  refine zK (nQ (zF (wR (qM .i64 ai 12 ?_ ?_))))
  ·intro bg
   refine zK (nQ (zT (wR (zJ (zK (zK (nQ (yA (zR (yK [(N6 p), (I6 2)] ?_))))))))))
   replace l := l.trans2 r (fun k e => e ▸ f)
   exact ⟨s, p, 2, rfl, c, (by rfl), zo, l⟩
  intro be
  refine zK (nQ (zF (wR (zJ (zK (zK (nQ (yA (zR (yK [(N6 p), (I6 0)] ?_))))))))))
  replace l := l.trans2 r (fun k e => e ▸ f)
  exact ⟨s, p, 0, rfl, c, (by rfl), zo, l⟩
 intro bf
 refine nQ (zF (zW (zD (wR (zO 0 i rfl (nQ (yF (wR (zr (.bool true) (zK (nQ (zT (wR (zJ (zK (zK (nQ (yA (zR (yK [(N6 (a + (((b - a) / 4) * 2))), (I6 1)] ?_))))))))))))))))))))
 replace l := l.trans2 (Ch.of_below n.below) (fun _ h => h.elim)
 have c := c.below n.below
 exact ⟨s, (a + (((b - a) / 4) * 2)), 1, rfl, c, (by rfl), zo, l⟩
end Go.Proofs.YtddnhlobnembaaaGreatDoor
end

/- === FKbf === -/
section
/- FKbf: numbers of 64 bits without sign of which only the range is wanted: shifts, exclusive or; a mask; a power of two. My own text. -/
namespace Go.FK
open Go Go.RowKit
theorem u64_rng (z : Int) : 0 ≤ IntKind.u64.wrap z ∧ IntKind.u64.wrap z ≤ 18446744073709551615 := by
 have h : IntKind.u64.wrap z = z % 18446744073709551616 := by simp [IntKind.wrap, IntKind.signed, IntKind.bits]
 rw [h]; omega
theorem wrapU (z : Int) (h0 : 0 ≤ z) (h1 : z ≤ 18446744073709551615) : IntKind.u64.wrap z = z := by
 have h : IntKind.u64.wrap z = z % 18446744073709551616 := by simp [IntKind.wrap, IntKind.signed, IntKind.bits]
 rw [h]; omega
section
variable {r : Option Nat} {P : Program} {n : Nat} {Q : Post} {s : Fm} {w : World} {ops : Array Oper} {rest : List Oper}
variable {d : Option Tmp} {ty : TypeId} {pos : String} {af : Array Edge}
theorem L_shlU {t yt : TypeId} {X Y : Operand} {yk : IntKind} (x : Int) (y p : Nat) (hp : 2 ^ y = p) (hy2 : Nat.ble y 64 = true) (hx : s.ev n X = .int .u64 x) (hy : s.ev n Y = .int yk y)
  (h : ∀ z : Int, 0 ≤ z ∧ z ≤ 18446744073709551615 → L r P n ops Q rest (s.put d (.int .u64 z)) w) : L r P n ops Q (⟨d, .binOp .shl t X Y yt, ty, pos, af, none⟩ :: rest) s w :=
 L_shl (k := .u64) x _ y p hp hy2 hx hy rfl (h _ (u64_rng _))
theorem L_shrU {t yt : TypeId} {X Y : Operand} {yk : IntKind} (x : Int) (y p : Nat) (hp : 2 ^ y = p) (hy2 : Nat.ble y 64 = true) (hr : 0 ≤ x ∧ x ≤ 18446744073709551615) (hx : s.ev n X = .int .u64 x) (hy : s.ev n Y = .int yk y)
  (h : ∀ z : Int, 0 ≤ z ∧ z ≤ 18446744073709551615 → L r P n ops Q rest (s.put d (.int .u64 z)) w) : L r P n ops Q (⟨d, .binOp .shr t X Y yt, ty, pos, af, none⟩ :: rest) s w :=
 L_shr (k := .u64) x y p hp hy2 hx hy (h _ ⟨Int.ediv_nonneg hr.1 (Int.natCast_nonneg _), Int.le_trans (Int.ediv_le_self _ hr.1) hr.2⟩)
theorem L_xorU {t yt : TypeId} {X Y : Operand} (x y : Int) (hx : s.ev n X = .int .u64 x) (hy : s.ev n Y = .int .u64 y)
  (h : ∀ z : Int, 0 ≤ z ∧ z ≤ 18446744073709551615 → L r P n ops Q rest (s.put d (.int .u64 z)) w) : L r P n ops Q (⟨d, .binOp .xor t X Y yt, ty, pos, af, none⟩ :: rest) s w :=
 L_bin _ _ (.int .u64 (IntKind.u64.wrap ((BitVec.ofInt 64 x ^^^ BitVec.ofInt 64 y).toNat : Int))) hx hy (wA ..) rfl (h _ (u64_rng _))
theorem L_andU {t yt : TypeId} {X Y : Operand} (x : Int) (b : Nat) (hb : b ≤ 18446744073709551615) (hx : s.ev n X = .int .u64 x) (hy : s.ev n Y = .int .u64 b)
  (h : ∀ z : Nat, z ≤ b → L r P n ops Q rest (s.put d (.int .u64 (z : Int))) w) : L r P n ops Q (⟨d, .binOp .and t X Y yt, ty, pos, af, none⟩ :: rest) s w := by
 have a : BitVec.ofInt 64 (b : Int) = BitVec.ofNat 64 b := by simp
 have c : (BitVec.ofInt 64 x &&& BitVec.ofInt 64 (b : Int)).toNat ≤ b := by
  rw [a, BitVec.toNat_and, BitVec.toNat_ofNat, Nat.mod_eq_of_lt (show b < 2 ^ 64 by omega)]
  exact Nat.and_le_right
 refine L_bin _ _ (.int .u64 (IntKind.u64.wrap ((BitVec.ofInt 64 x &&& BitVec.ofInt 64 (b : Int)).toNat : Int))) hx hy (wA ..) rfl ?_
 rw [wrapU _ (Int.natCast_nonneg _) (by omega)]
 exact h _ c
theorem L_shl1 {t yt : TypeId} {X Y : Operand} {yk : IntKind} (k : Nat) (hk : k ≤ 63) (hx : s.ev n X = .int .u64 1) (hy : s.ev n Y = .int yk k)
  (h : L r P n ops Q rest (s.put d (.int .u64 ((2 ^ k : Nat) : Int))) w) : L r P n ops Q (⟨d, .binOp .shl t X Y yt, ty, pos, af, none⟩ :: rest) s w := by
 refine L_shl 1 _ k (2 ^ k) rfl (by simp; show k ≤ 64; omega) hx hy ?_ h
 have : 2 ^ k ≤ 2 ^ 63 := Nat.pow_le_pow_right (by omega) hk
 rw [Int.one_mul]
 exact wrapU _ (Int.natCast_nonneg _) (by omega)
end
theorem subU (a b : Nat) (h : b ≤ a) (ha : a ≤ 18446744073709551615) : IntKind.u64.wrap (arithZ .sub (a : Int) (b : Int)) = ((a - b : Nat) : Int) := by
 have e : arithZ .sub (a : Int) (b : Int) = ((a - b : Nat) : Int) := by simp only [arithZ]; omega
 rw [e]; exact wrapU _ (Int.natCast_nonneg _) (by omega)
theorem pow_bitLen : ∀ n : Nat, 1 ≤ n → n < 4611686018427387904 → 2 ^ Lib.bitLen n ≤ 2 * n := by
 intro n
 induction n using Nat.strongRecOn with
 | ind n ih =>
  intro a b
  rw [Lib.bitLen_half n (by omega) (by omega), Nat.pow_add, Nat.pow_one]
  by_cases e : n / 2 = 0
  ·have : n = 1 := by omega
   subst this
   decide
  ·have := ih (n / 2) (by omega) (by omega) (by omega)
   omega
theorem bitLen_63 {n : Nat} (h1 : 1 ≤ n) (h2 : n < 4611686018427387904) : Lib.bitLen n ≤ 63 := by
 have a := pow_bitLen n h1 h2
 rcases Nat.lt_or_ge 63 (Lib.bitLen n) with h | h
 ·have : 2 ^ 64 ≤ 2 ^ Lib.bitLen n := Nat.pow_le_pow_right (by omega) h
  omega
 ·exact h
theorem bitAux_le : ∀ f x : Nat, Lib.bitLenAux f x ≤ f
 | 0, _ => Nat.le_refl _
 | f + 1, x => by
  have := bitAux_le f (x / 2)
  unfold Lib.bitLenAux
  split <;> omega
theorem bitLen_le (x : Nat) : Lib.bitLen x ≤ 64 := bitAux_le 64 x
end Go.FK
end

/- === Wcsbp === -/
section
/- Walks, written by my program walk.py out of the specification csbp.py: each theorem says what one function returns and that it leaves memory as it was. -/
namespace Go.Proofs.YtddnhlobnembaaaGreatDoor
open Go Go.RowKit Go.FK _root_.Go.Proofs.Tryz
set_option maxHeartbeats 4000000
set_option maxRecDepth 100000
theorem c_bitsLen (x : Int) (w : World) (h0 : 0 ≤ x) (h1 : x ≤ 18446744073709551615) :
  Calls Tryz.prog 114 #[(.int .u64 x)] w (Ret fun v w' => v = (N6 (Lib.bitLen x.toNat)) ∧ Below w.heap.size w w') :=
 (Tryz.bits_Len x w h0 h1).mono fun e w' h => ⟨_, h.1, rfl, h.2 ▸ Below.refl _ _⟩
theorem c_xnext (B_ : Nat) (b : Nat) (z : Int) (w : World) (hs0 : B_ ≤ w.heap.size) (a : w.heap[b]? = some (.cells [(.int .u64 z)].toArray 231 (0, 0))) (s : B_ ≤ b) (hz : 0 ≤ z ∧ z ≤ 18446744073709551615) :
  Calls Tryz.prog 153 #[(pt b 0)] w (Ret fun v w' => ∃ (r : Int) (z2 : Int), v = (.int .u64 r) ∧ (0 ≤ r ∧ r ≤ 18446744073709551615) ∧ (0 ≤ z2 ∧ z2 ≤ 18446744073709551615) ∧ w'.heap[b]? = some (.cells [(.int .u64 z2)].toArray 231 (0, 0)) ∧ Ch (fun k => k = b) w w') := by
 refine wO 33 func153 rfl ?_
 have n := Below.refl B_ w
 have d : B_ ≤ (World.heap w).size := hs0
 have y := Ch.refl (fun k => k = b) w
 have m : (World.heap w).size ≤ b ∨ (fun k => k = b) b := .inr rfl
 refine wR (zK (nW (xD 9 10 zk zk zk ?_)))
 intro w1 o
 have n := n.trans (o.mono d)
 replace d := Nat.le_trans d (o.size)
 refine ⟨fun w => (w.heap[b]? = some (.cells [(.int .u64 z)].toArray 231 (0, 0))), ?_⟩
 have a := zB a o
 refine mp 0 rfl (pt b 0) (.inr a) zg (hq := (zA zG)) (mp 1 rfl (pt b 0) (.inr a) zg (hq := (zA zG)) (mt 2 [2, 7, 8, 9] rfl (.int .u64 z) a (yQ b 0 (.int .u64 z) zk zf (fun w2 h2 => zQ h2 rfl)) (hq := (zA zG)) (mp 3 rfl (pt b 0) (.inr a) zg (hq := (zA zG)) (mp 4 rfl (pt b 0) (.inr a) zg (hq := (zA zG)) (mt 5 [5, 6, 7, 8, 9] rfl (.int .u64 z) a (yQ b 0 (.int .u64 z) zk zf (fun w2 h2 => zQ h2 rfl)) (hq := (zA zG)) (yH 6 zk ?_))))))
 refine yR 6 rfl ?_ rfl
 refine L_shlU (yk := .u64) z 13 8192 rfl zk zk zk ?_
 intro z3 ai
 refine zS ?_
 refine ⟨rfl, .inr a, yH 7 zk (yR 7 rfl ?_ rfl)⟩
 refine L_xorU z z3 zk zk ?_
 intro q ae
 refine zS ?_
 refine ⟨rfl, .inr a, mp 8 rfl (pt b 0) (.inr a) zg (hq := (zA zG)) (yH 9 zk (yR 9 rfl ?_ rfl))⟩
 refine z1 0 (.int .u64 q) [(.int .u64 q)] a ?_
 intro w7 p
 replace d := Nat.le_trans d (Nat.le_of_eq p.size.symm)
 have a := p.here
 refine zS ?_
 refine ⟨rfl, .inl zk, yT zk (zD (yC (xD 9 10 zk zk zk ?_)))⟩
 intro w9 g
 have n := n.trans (p.below s)
 have n := n.trans (g.mono d)
 replace d := Nat.le_trans d (g.size)
 refine ⟨fun w => (w.heap[b]? = some (.cells [(.int .u64 q)].toArray 231 (0, 0))), ?_⟩
 have a := zB a g
 refine mp 0 rfl (pt b 0) (.inr a) zg (hq := (zA zG)) (mp 1 rfl (pt b 0) (.inr a) zg (hq := (zA zG)) (mt 2 [2, 7, 8, 9] rfl (.int .u64 q) a (yQ b 0 (.int .u64 q) zk zf (fun w2 h2 => zQ h2 rfl)) (hq := (zA zG)) (mp 3 rfl (pt b 0) (.inr a) zg (hq := (zA zG)) (mp 4 rfl (pt b 0) (.inr a) zg (hq := (zA zG)) (mt 5 [5, 6, 7, 8, 9] rfl (.int .u64 q) a (yQ b 0 (.int .u64 q) zk zf (fun w2 h2 => zQ h2 rfl)) (hq := (zA zG)) (yH 6 zk ?_))))))
 refine yR 6 rfl ?_ rfl
 refine L_shrU (yk := .u64) q 7 128 rfl zk zo zk zk ?_
 intro u aa
 refine zS ?_
 refine ⟨rfl, .inr a, yH 7 zk (yR 7 rfl ?_ rfl)⟩
 refine L_xorU q u zk zk ?_
 intro c ac
 refine zS ?_
 refine ⟨rfl, .inr a, mp 8 rfl (pt b 0) (.inr a) zg (hq := (zA zG)) (yH 9 zk (yR 9 rfl ?_ rfl))⟩
 refine z1 0 (.int .u64 c) [(.int .u64 c)] a ?_
 intro ag i
 replace d := Nat.le_trans d (Nat.le_of_eq i.size.symm)
 have a := i.here
 refine zS ?_
 refine ⟨rfl, .inl zk, yT zk (zD (yC (xD 9 10 zk zk zk ?_)))⟩
 intro ah f
 have n := n.trans (i.below s)
 have n := n.trans (f.mono d)
 replace d := Nat.le_trans d (f.size)
 refine ⟨fun w => (w.heap[b]? = some (.cells [(.int .u64 c)].toArray 231 (0, 0))), ?_⟩
 have a := zB a f
 refine mp 0 rfl (pt b 0) (.inr a) zg (hq := (zA zG)) (mp 1 rfl (pt b 0) (.inr a) zg (hq := (zA zG)) (mt 2 [2, 7, 8, 9] rfl (.int .u64 c) a (yQ b 0 (.int .u64 c) zk zf (fun w2 h2 => zQ h2 rfl)) (hq := (zA zG)) (mp 3 rfl (pt b 0) (.inr a) zg (hq := (zA zG)) (mp 4 rfl (pt b 0) (.inr a) zg (hq := (zA zG)) (mt 5 [5, 6, 7, 8, 9] rfl (.int .u64 c) a (yQ b 0 (.int .u64 c) zk zf (fun w2 h2 => zQ h2 rfl)) (hq := (zA zG)) (yH 6 zk ?_))))))
 refine yR 6 rfl ?_ rfl
 refine L_shlU (yk := .u64) c 17 131072 rfl zk zk zk ?_
 intro t ad
 refine zS ?_
 refine ⟨rfl, .inr a, yH 7 zk (yR 7 rfl ?_ rfl)⟩
 refine L_xorU c t zk zk ?_
 intro l ab
 refine zS ?_
 refine ⟨rfl, .inr a, mp 8 rfl (pt b 0) (.inr a) zg (hq := (zA zG)) (yH 9 zk (yR 9 rfl ?_ rfl))⟩
 refine z1 0 (.int .u64 l) [(.int .u64 l)] a ?_
 intro aj j
 replace d := Nat.le_trans d (Nat.le_of_eq j.size.symm)
 have a := j.here
 refine zS ?_
 refine ⟨rfl, .inl zk, yT zk (zD (wR (zJ (zr (pt b 0) (zO 0 a rfl (zK (nQ (yA (yK [(.int .u64 l)] ?_)))))))))⟩
 replace y := (((((y.trans2 (Ch.of_below o) (fun _ h => h.elim)).trans2 (Ch.of_wrote p) (fun k e => e ▸ m)).trans2 (Ch.of_below g) (fun _ h => h.elim)).trans2 (Ch.of_wrote i) (fun k e => e ▸ m)).trans2 (Ch.of_below f) (fun _ h => h.elim)).trans2 (Ch.of_wrote j) (fun k e => e ▸ m)
 exact ⟨l, l, rfl, zo, zo, a, y⟩
theorem c_npow (n : Nat) (w : World) (h0 : 1 ≤ n) (h1 : n < 4611686018427387904) :
  Calls Tryz.prog 152 #[(N6 n)] w (Ret fun v w' => v = (.int .u64 (((2 ^ Lib.bitLen n) : Nat) : Int)) ∧ Below w.heap.size w w') := by
 refine wO 7 func152 rfl ?_
 have b := Below.refl w.heap.size w
 have c := bitLen_63 h0 h1
 have e := pow_bitLen n h0 h1
 refine wR (zK (nR (zJ (L_conv (k := .i64) ((n : Nat) : Int) ((n : Nat) : Int) zk underlying144 zk (wrap_u64 _ zo zo) (zc (c_bitsLen ((n : Nat) : Int) _ zo zo) ?_)))))
 rintro _ d ⟨rfl, a⟩
 have b := b.tr a
 exact L_shl1 (yk := .i64) (Lib.bitLen ((n : Nat) : Int).toNat) (by (rw [Int.toNat_natCast]; omega)) zk zk (zK (nQ (yA (yK [(.int .u64 (((2 ^ (Lib.bitLen ((n : Nat) : Int).toNat)) : Nat) : Int))] ⟨congrArg (fun x : Nat => Value.int .u64 (x : Int)) (by first | (rw [Int.toNat_natCast]; done) | rfl), b⟩))))
theorem c_break (B_ : Nat) (o : Value) (s : List (Int)) (a : Nat) (b : Nat) (w : World) (hs0 : B_ ≤ w.heap.size) (c : Row w B_ 21 1 encI32 o s) (h1 : a ≤ b) (h2 : b ≤ s.length) (h3 : s.length ≤ 2305843009213693951) :
  Calls Tryz.prog 130 #[o, (N6 a), (N6 b)] w (Ret fun v w' => ∃ (ys : List (Int)), v = (.tuple #[]) ∧ Row w' B_ 21 1 encI32 o ys ∧ (Sw a b s ys) ∧ Ch (fun k => Value.ownBlock o = some k) w w') := by
 refine wO 65 func130 rfl ?_
 have t := Below.refl B_ w
 have p : B_ ≤ (World.heap w).size := hs0
 have hc := Ch.refl (fun k => Value.ownBlock o = some k) w
 have r : ∀ g, Value.ownBlock o = some g → (World.heap w).size ≤ g ∨ (fun k => Value.ownBlock o = some k) g := fun g h => .inr h
 refine wR (zJ (zJ (zsb b a (zK (nR (zJ (nGe (b - a) 8 ?_ ?_)))))))
 ·intro h1
  refine nQ (zT (wR (zJ (L_conv (k := .i64) (((b - a) : Nat) : Int) (((b - a) : Nat) : Int) zk underlying231 zk (wrap_u64 _ zo zo) (zN [(.int .u64 0)] 231 ?_)))))
  intro b2 w3 ak
  have a4 : B_ ≤ b2 := by rw [ak.num]; exact p
  have an : (World.heap w).size ≤ b2 ∨ (fun k => Value.ownBlock o = some k) b2 := .inl (by rw [ak.num]; exact hc.size)
  replace t := t.trans (ak.below.mono p)
  replace p := Nat.le_trans p (ak.below.size)
  have j := ak.here
  refine z1 0 (.int .u64 (((b - a) : Nat) : Int)) [(.int .u64 (((b - a) : Nat) : Int))] j ?_
  intro w5 a0
  replace p := Nat.le_trans p (Nat.le_of_eq a0.size.symm)
  replace c := c.below ak.below
  replace c := c.wrote a0 (c.ne j zi)
  replace j := a0.here
  refine nR (zJ (zc (c_npow (b - a) _ zo zo) ?_))
  replace hc := (hc.trans2 (Ch.of_below ak.below) (fun _ h => h.elim)).trans2 (Ch.of_wrote a0) (fun k e => e ▸ an)
  rintro _ w7 ⟨rfl, az⟩
  replace t := t.trans (a0.below a4)
  replace t := t.trans (az.mono p)
  replace p := Nat.le_trans p (az.size)
  refine zK (nR (zJ (zJ (L_quoN (b - a) 4 zo zo zk zk (L_mulN ((b - a) / 4) 2 zo zk zk (xR a (((b - a) / 4) * 2) (zsb (a + (((b - a) / 4) * 2)) 1 (zK (nQ (yF ?_))))))))))
  replace hc := hc.trans2 (Ch.of_below az) (fun _ h => h.elim)
  replace j := zB j az
  replace c := c.below az
  refine xG (fun m s0 w0 => ∃ (i : Nat) (zr : Int) (ys : List Int), (m = a + (b - a) / 4 * 2 + 2 - i) ∧ (s0.ds = []) ∧ ([0, 1, 6, 7, 8, 9].map s0.f = [o, (N6 a), (N6 (b - a)), (pt b2 0), (.int .u64 (((2 ^ Lib.bitLen (b - a)) : Nat) : Int)), (N6 i)]) ∧ (Row w0 B_ 21 1 encI32 o ys) ∧ (w0.heap[b2]? = some (.cells [(.int .u64 zr)].toArray 231 (0, 0))) ∧ (Below B_ w w0) ∧ (Ch (fun k => Value.ownBlock o = some k) w w0) ∧ (B_ ≤ w0.heap.size) ∧ (a + (b - a) / 4 * 2 - 1 ≤ i ∧ i ≤ a + (b - a) / 4 * 2 + 2) ∧ (ys.length = s.length) ∧ (Sw a b s ys) ∧ (0 ≤ zr ∧ zr ≤ 18446744073709551615)) _ ⟨((a + (((b - a) / 4) * 2)) - 1), (((b - a) : Nat) : Int), s, rfl, zk, zk, c, j, t, hc, p, zo, rfl, .refl, zo⟩ ?_
  rintro cs cw co ⟨i, zr, ys, hm, bg, bx, c, j, t, hc, p, i1, i3, i4, i6⟩
  refine yZ bx ?_
  have hp := pow_bitLen (b - a) zo zo
  have cu := Nat.one_le_two_pow (n := Lib.bitLen (b - a))
  refine yC (wR (zJ (zJ (zJ (L_quoN (b - a) 4 zo zo zk zk (L_mulN ((b - a) / 4) 2 zo zk zk (xR a (((b - a) / 4) * 2) (xR (a + (((b - a) / 4) * 2)) 1 (nLe i ((a + (((b - a) / 4) * 2)) + 1) ?_ ?_)))))))))
  ·intro ck
   refine nQ (zT (zW (zD (yC (yF (wR (zc (c_xnext 0 b2 zr _ (Nat.zero_le _) j (Nat.zero_le _) zo) ?_)))))))
   rintro _ cv ⟨bw, bs, rfl, cd, b3, bo, z⟩
   replace t := z.below t p (fun k e => e ▸ a4)
   replace p := Nat.le_trans p z.size
   replace c := c.ch z (fun g e d => (c.ne j zi) (d ▸ e))
   replace j := bo
   refine zJ (wP (((2 ^ Lib.bitLen (b - a)) : Nat) : Int) 1 ((((2 ^ Lib.bitLen (b - a)) - 1) : Nat) : Int) rfl zk zk (subU (2 ^ Lib.bitLen (b - a)) 1 zo zo) (L_andU bw ((2 ^ Lib.bitLen (b - a)) - 1) zo zk zk ?_))
   intro l b0
   refine L_conv (k := .u64) ((l : Nat) : Int) ((l : Nat) : Int) zk underlying3 zk (xM _ zo zo) (zK (nW (wR (zJ (zJ (nGe l (b - a) ?_ ?_))))))
   ·intro ci
    refine nQ (zT (zY (zJ (zJ (zsb l (b - a) (zK (nQ (xD 17 20 zk zk zk ?_))))))))
    intro cn ab
    replace t := t.trans (ab.mono p)
    replace p := Nat.le_trans p (ab.size)
    refine ⟨fun w => (Rd w encI32 o ys), ?_⟩
    replace c := c.below ab
    refine mp 0 rfl o (.inr c.rd) zg (hq := (zC (zA (zA (zC zG))))) (mp 1 rfl (N6 i) (.inr c.rd) zg (hq := (zC (zA (zA (zC zG))))) (mp 2 rfl o (.inr c.rd) zg (hq := (zC (zA (zA (zC zG))))) (mp 3 rfl (N6 a) (.inr c.rd) zg (hq := (zC (zA (zA (zC zG))))) (mp 4 rfl (N6 (l - (b - a))) (.inr c.rd) zg (hq := (zC (zA (zA (zC zG))))) (mp 5 rfl (N6 (a + (l - (b - a)))) (.inr c.rd) (fun w2 _ => wQ a (l - (b - a)) zo zk zk w2) (hq := (zC (zA (zA (zC zG))))) (mp 6 rfl o (.inr c.rd) zg (hq := (zC (zA (zA (zC zG))))) (mp 7 rfl (N6 a) (.inr c.rd) zg (hq := (zC (zA (zA (zC zG))))) (mp 8 rfl (N6 (l - (b - a))) (.inr c.rd) zg (hq := (zC (zA (zA (zC zG))))) (mp 9 rfl (N6 (a + (l - (b - a)))) (.inr c.rd) (fun w2 _ => wQ a (l - (b - a)) zo zk zk w2) (hq := (zC (zA (zA (zC zG))))) ?_)))))))))
    have q := yB ys (a + (l - (b - a))) zo; obtain ⟨ad, a2⟩ := q
    have q := (c.rd).at (k := 1) zj a2; obtain ⟨bi, af, a8, b9⟩ := q
    refine mp 10 rfl (pt bi (af + (a + (l - (b - a))) * 1)) (.inr c.rd) (yJ (k := .i64) o (a + (l - (b - a))) _ bi af xC a8 zo zk zk) (hq := (zC (zA (zA (zC zG))))) (mt 11 [11, 16, 17, 18, 19] rfl (I3 ad) c.rd (yQ bi (af + (a + (l - (b - a))) * 1) (I3 ad) zk zf (fun w2 h2 => Rd.later (k := 1) h2 zj a8 a2 0 _ rfl)) (hq := (zC (zA (zA (zC zG))))) (mp 12 rfl o (.inr c.rd) zg (hq := (zC (zA (zA (zC zG))))) (mp 13 rfl (N6 i) (.inr c.rd) zg (hq := (zC (zA (zA (zC zG))))) ?_)))
    have q := yB ys i zo; obtain ⟨ag, y⟩ := q
    have q := (c.rd).at (k := 1) zj y; obtain ⟨bc, aq, a3, b1⟩ := q
    refine mp 14 rfl (pt bc (aq + i * 1)) (.inr c.rd) (yJ (k := .i64) o i _ bc aq xC a3 zo zk zk) (hq := (zC (zA (zA (zC zG))))) (mt 15 [15, 16, 17, 18, 19] rfl (I3 ag) c.rd (yQ bc (aq + i * 1) (I3 ag) zk zf (fun w2 h2 => Rd.later (k := 1) h2 zj a3 y 0 _ rfl)) (hq := (zC (zA (zA (zC zG))))) ?_)
    have q := (c.rd).at (k := 1) zj y; obtain ⟨bh, al, a9, b8⟩ := q
    refine mp 16 rfl (pt bh (al + i * 1)) (.inr c.rd) (yJ (k := .i64) o i _ bh al xC a9 zo zk zk) (hq := (zC (zA (zA (zC zG))))) (yH 17 zk (yR 17 rfl ?_ rfl))
    refine yW i 0 bh al ag ad (I3 ad) c zj y a9 zk zk rfl zk zk rfl ?_
    intro cr bt ar
    replace t := t.tg p ar c
    replace p := Nat.le_trans p (ar.size)
    replace j := zB j ab
    replace j := yO j ar (c.ne j zi)
    replace c := bt
    have cb : (List.set ys i ad)[i]? = some ad := xA y
    refine zS ?_
    refine ⟨rfl, .inl zk, ?_⟩
    have q := yB (List.set ys i ad) (a + (l - (b - a))) (by (simp only [yX, List.length_set] at *; omega)); obtain ⟨bz, a1⟩ := q
    have q := (c.rd).at (k := 1) zj a1; obtain ⟨bk, ao, a6, b7⟩ := q
    refine mp 18 rfl (pt bk (ao + (a + (l - (b - a))) * 1)) (.inl zk) (yJ (k := .i64) o (a + (l - (b - a))) _ bk ao xC a6 (by (simp only [yX, List.length_set] at *; omega)) zk zk) (hq := (zC (zA (zA (zC zG))))) (yH 19 zk (yR 19 rfl ?_ rfl))
    refine yW (a + (l - (b - a))) 0 bk ao bz ag (I3 ag) c zj a1 a6 zk zk rfl zk zk rfl ?_
    intro cl br au
    replace t := t.tg p au c
    replace p := Nat.le_trans p (au.size)
    replace j := yO j au (c.ne j zi)
    replace c := br
    have ce : (List.set (List.set ys i ad) (a + (l - (b - a))) ag)[(a + (l - (b - a)))]? = some ag := xA a1
    have eS := xU y a2
    replace c := c.cast eS; clear eS
    refine zS ?_
    refine ⟨rfl, .inl zk, yT zk (zL (zD (zY (zJ (xR i 1 (zK (zS ?_)))))))⟩
    replace hc := (((hc.trans2 z (fun k e => e ▸ an)).trans2 (Ch.of_below ab) (fun _ h => h.elim)).trans2 (Ch.of_grown ar) (fun k e => r k e)).trans2 (Ch.of_grown au) (fun k e => r k e)
    refine zD ⟨_, zo, (i + 1), bs, (swp ys i (a + (l - (b - a)))), rfl, bg, zk, c, j, t, hc, p, zo, ?_, ?_, zo⟩
    ·rw [yX]; exact i3
    exact .swap _ _ i4 zo zo zo
   intro ct
   refine nQ (zF (zW (zD (xD 17 20 zk zk zk ?_))))
   intro cq ac
   replace t := t.trans (ac.mono p)
   replace p := Nat.le_trans p (ac.size)
   refine ⟨fun w => (Rd w encI32 o ys), ?_⟩
   replace c := c.below ac
   refine mp 0 rfl o (.inr c.rd) zg (hq := (zC (zA (zA (zC zG))))) (mp 1 rfl (N6 i) (.inr c.rd) zg (hq := (zC (zA (zA (zC zG))))) (mp 2 rfl o (.inr c.rd) zg (hq := (zC (zA (zA (zC zG))))) (mp 3 rfl (N6 a) (.inr c.rd) zg (hq := (zC (zA (zA (zC zG))))) (mp 4 rfl (N6 l) (.inr c.rd) zg (hq := (zC (zA (zA (zC zG))))) (mp 5 rfl (N6 (a + l)) (.inr c.rd) (fun w2 _ => wQ a l zo zk zk w2) (hq := (zC (zA (zA (zC zG))))) (mp 6 rfl o (.inr c.rd) zg (hq := (zC (zA (zA (zC zG))))) (mp 7 rfl (N6 a) (.inr c.rd) zg (hq := (zC (zA (zA (zC zG))))) (mp 8 rfl (N6 l) (.inr c.rd) zg (hq := (zC (zA (zA (zC zG))))) (mp 9 rfl (N6 (a + l)) (.inr c.rd) (fun w2 _ => wQ a l zo zk zk w2) (hq := (zC (zA (zA (zC zG))))) ?_)))))))))
   have q := yB ys (a + l) zo; obtain ⟨aa, ay⟩ := q
   have q := (c.rd).at (k := 1) zj ay; obtain ⟨bd, aj, a7, cc⟩ := q
   refine mp 10 rfl (pt bd (aj + (a + l) * 1)) (.inr c.rd) (yJ (k := .i64) o (a + l) _ bd aj xC a7 zo zk zk) (hq := (zC (zA (zA (zC zG))))) (mt 11 [11, 16, 17, 18, 19] rfl (I3 aa) c.rd (yQ bd (aj + (a + l) * 1) (I3 aa) zk zf (fun w2 h2 => Rd.later (k := 1) h2 zj a7 ay 0 _ rfl)) (hq := (zC (zA (zA (zC zG))))) (mp 12 rfl o (.inr c.rd) zg (hq := (zC (zA (zA (zC zG))))) (mp 13 rfl (N6 i) (.inr c.rd) zg (hq := (zC (zA (zA (zC zG))))) ?_)))
   have q := yB ys i zo; obtain ⟨ae, u⟩ := q
   have q := (c.rd).at (k := 1) zj u; obtain ⟨be, ap, a5, b6⟩ := q
   refine mp 14 rfl (pt be (ap + i * 1)) (.inr c.rd) (yJ (k := .i64) o i _ be ap xC a5 zo zk zk) (hq := (zC (zA (zA (zC zG))))) (mt 15 [15, 16, 17, 18, 19] rfl (I3 ae) c.rd (yQ be (ap + i * 1) (I3 ae) zk zf (fun w2 h2 => Rd.later (k := 1) h2 zj a5 u 0 _ rfl)) (hq := (zC (zA (zA (zC zG))))) ?_)
   have q := (c.rd).at (k := 1) zj u; obtain ⟨bj, ah, ba, b4⟩ := q
   refine mp 16 rfl (pt bj (ah + i * 1)) (.inr c.rd) (yJ (k := .i64) o i _ bj ah xC ba zo zk zk) (hq := (zC (zA (zA (zC zG))))) (yH 17 zk (yR 17 rfl ?_ rfl))
   refine yW i 0 bj ah ae aa (I3 aa) c zj u ba zk zk rfl zk zk rfl ?_
   intro cj bm aw
   replace t := t.tg p aw c
   replace p := Nat.le_trans p (aw.size)
   replace j := zB j ac
   replace j := yO j aw (c.ne j zi)
   replace c := bm
   have ca : (List.set ys i aa)[i]? = some aa := xA u
   refine zS ?_
   refine ⟨rfl, .inl zk, ?_⟩
   have q := yB (List.set ys i aa) (a + l) (by (simp only [yX, List.length_set] at *; omega)); obtain ⟨bv, ax⟩ := q
   have q := (c.rd).at (k := 1) zj ax; obtain ⟨bf, am, bb, cf⟩ := q
   refine mp 18 rfl (pt bf (am + (a + l) * 1)) (.inl zk) (yJ (k := .i64) o (a + l) _ bf am xC bb (by (simp only [yX, List.length_set] at *; omega)) zk zk) (hq := (zC (zA (zA (zC zG))))) (yH 19 zk (yR 19 rfl ?_ rfl))
   refine yW (a + l) 0 bf am bv ae (I3 ae) c zj ax bb zk zk rfl zk zk rfl ?_
   intro cx bq av
   replace t := t.tg p av c
   replace p := Nat.le_trans p (av.size)
   replace j := yO j av (c.ne j zi)
   replace c := bq
   have cg : (List.set (List.set ys i aa) (a + l) ae)[(a + l)]? = some ae := xA ax
   have eS := xU u ay
   replace c := c.cast eS; clear eS
   refine zS ?_
   refine ⟨rfl, .inl zk, yT zk (zL (zD (zY (zJ (xR i 1 (zK (zS ?_)))))))⟩
   replace hc := (((hc.trans2 z (fun k e => e ▸ an)).trans2 (Ch.of_below ac) (fun _ h => h.elim)).trans2 (Ch.of_grown aw) (fun k e => r k e)).trans2 (Ch.of_grown av) (fun k e => r k e)
   refine zD ⟨_, zo, (i + 1), bs, (swp ys i (a + l)), rfl, bg, zk, c, j, t, hc, p, zo, ?_, ?_, zo⟩
   ·rw [yX]; exact i3
   exact .swap _ _ i4 zo zo zo
  intro cm
  refine nQ (zF (yU (zV (zV (yI (znrm [] (hd := bg) ?_))))))
  exact ⟨ys, rfl, c, (by first | exact .refl | exact i4), hc⟩
 intro cp
 refine nQ (zF (zW (znrm [] ?_)))
 exact ⟨s, rfl, c, (by first | exact .refl | exact i4), hc⟩
end Go.Proofs.YtddnhlobnembaaaGreatDoor
end
