/- Joined by my program pack2.py out of my own texts: FKbd FKai Wcb1 Wcb2 Wcsw Wcsx Wcsy Wcsz Wcspv FKbf Wcsbp Wcsq. -/
import Derived.Shelf.SlMaps.Clone
import Derived.RangeFuncBound
import Derived.Test.YtddnhlobnembaaaGreatDoorProg
import Derived.Tactics2
import Derived.Lib.BitFns
import Derived.Test.YtddnhlobnembaaaGreatDoorR1
import Derived.Test.YtddnhlobnembaaaGreatDoorR2
set_option linter.unusedVariables false
set_option linter.unusedSimpArgs false
/- === FKbd === -/
section
/- FKbd: regions that draw their order, as FKap, but the condition on the world is asked only until the operation m has come; an operation that hangs on no world is taken first, whoever waits for it; a look into a map; a map copied, a map taken back out of an interface. My own text. -/
namespace Go.FK
open Go Go.RowKit Go.Proofs
section
variable {P : Program} {ops : Array Oper} {Q : Exit → Act → World → Prop} {S : World → Prop} {m : Nat}
def wpAnyM (P : Program) (ops : Array Oper) (Q : Exit → Act → World → Prop) (S : World → Prop) (m : Nat) : Nat → Array Bool → Act → World → Prop
  | 0, listed, a, w => Region.ready .any ops listed = [] ∧ Q .normal a w
  | fuel + 1, listed, a, w => (Region.ready .any ops listed = [] → Q .normal a w) ∧
    ∀ i ∈ Region.ready .any ops listed, wpOpIn (Fw none) 0 P ops Q i (fun a' w' => ((listed.setIfInBounds i true).getD m true = true ∨ S w') ∧ wpAnyM P ops Q S m fuel (listed.setIfInBounds i true) a' w') a w
theorem wpAnyIn_of_M : ∀ (fuel : Nat) (listed : Array Bool) (a : Act) (w : World), wpAnyM P ops Q S m fuel listed a w → wpAnyIn (Fw none) 0 P .any ops Q fuel listed a w
 | 0, _, _, _, h => h
 | fuel + 1, _, _, _, h => ⟨h.1, fun i hi => wpOpIn_mono (fun a' w' h' => wpAnyIn_of_M fuel _ a' w' h'.2) (h.2 i hi)⟩
theorem wpAnyM_first {i : Nat} {oi : Oper} {v : Value} {B : List Nat} (hi : ops[i]? = some oi) (hsel : ∀ (j : Nat) (o : Oper) cs b, ops[j]? = some o → o.op ≠ .select cs b)
  (hQ : ∀ c a w, Q (.panic c) (a.put oi.dst v) w → Q (.panic c) a w) (hw : waitB ops i B = true) (hm : m ∈ B) (hmi : m ≠ i) :
  ∀ (fuel : Nat) (listed : Array Bool) (a : Act) (w : World),
   (∀ j oj, ops[j]? = some oj → j ≠ i → listed.getD j true = false → (∀ e ∈ oj.after, Region.binds .any e = true → e.on ≠ i) → oi.apart ops oj = true) →
   i ∈ Region.ready .any ops listed → freeB listed B = true → YieldsJ P ops S oi v a → S w →
   wpAnyM P ops Q S m fuel (listed.setIfInBounds i true) (a.put oi.dst v) w → wpAnyM P ops Q S m (fuel + 1) listed a w := by
 intro fuel
 induction fuel with
 | zero =>
  intro listed a w _ hr hf hy hS H
  refine ⟨fun h => (by rw [h] at hr; cases hr), fun j hj => ?_⟩
  by_cases hji : j = i
  ·subst hji; exact hy.wpOpIn hi hS ⟨.inr hS, H⟩
  ·have := ready_mono hj hji
   rw [H.1] at this
   cases this
 | succ fuel ih =>
  intro listed a w hfree hr hf hy hS H
  refine ⟨fun h => (by rw [h] at hr; cases hr), fun j hj => ?_⟩
  by_cases hji : j = i
  ·subst hji; exact hy.wpOpIn hi hS ⟨.inr hS, H⟩
  ·have d := H.2 j (ready_mono hj hji)
   obtain ⟨hjun, oj, hoj, hall⟩ := mem_ready.1 hj
   have hnot : ∀ e ∈ oj.after, Region.binds .any e = true → e.on ≠ i := fun e he hb heq => by
    have d := hall e he hb
    have f := (mem_ready.1 hr).1
    rw [heq] at d
    rcases Nat.lt_or_ge i listed.size with h' | h'
    ·simp [h'] at f d; rw [f] at d; cases d
    ·simp [Array.getElem?_eq_none h'] at d
   have g := wpOpIn_putJ hoj (hfree j oj hoj hji hjun hnot) (fun cs b => hsel i oi cs b hi) (fun cs b => hsel j oj cs b hoj) hQ hy d
   have hfree' : ∀ k ok, ops[k]? = some ok → k ≠ i → (listed.setIfInBounds j true).getD k true = false →
     (∀ e ∈ ok.after, Region.binds .any e = true → e.on ≠ i) → oi.apart ops ok = true := fun k ok hk hki hun hno => by
    refine hfree k ok hk hki ?_ hno
    by_cases hjk : j = k
    ·subst hjk; exact hjun
    ·rw [getD_set_ne true hjk] at hun; exact hun
   refine wpOpIn_mono (fun a' w' h3 => ?_) g
   obtain ⟨hy', hjm, hk⟩ := h3
   rw [Array.setIfInBounds_comm _ _ (Ne.symm hji), getD_set_ne true (Ne.symm hmi)] at hjm
   have hjB := not_ready hw hf hj hji
   have hS' : S w' := by
    rcases hjm with hjm | hjm
    ·rw [getD_set_ne true (fun e : j = m => hjB (by rw [e]; exact hm)), free_at hf hm] at hjm; cases hjm
    ·exact hjm
   refine ⟨hjm, ih (listed.setIfInBounds j true) a' w' hfree' (ready_mono hr (Ne.symm hji)) (free_set hf hjB) hy' hS' ?_⟩
   rw [Array.setIfInBounds_comm _ _ hji]
   exact hk
theorem wpAnyM_pure {i : Nat} {oi : Oper} {v : Value} (hi : ops[i]? = some oi) (hsel : ∀ (j : Nat) (o : Oper) cs b, ops[j]? = some o → o.op ≠ .select cs b)
  (hQ : ∀ c a w, Q (.panic c) (a.put oi.dst v) w → Q (.panic c) a w) (hmi : m ≠ i) :
  ∀ (fuel : Nat) (listed : Array Bool) (a : Act) (w : World),
   (∀ j oj, ops[j]? = some oj → j ≠ i → listed.getD j true = false → (∀ e ∈ oj.after, Region.binds .any e = true → e.on ≠ i) → oi.apart ops oj = true) →
   i ∈ Region.ready .any ops listed → YieldsJ P ops (fun _ => True) oi v a → (listed.getD m true = true ∨ S w) →
   wpAnyM P ops Q S m fuel (listed.setIfInBounds i true) (a.put oi.dst v) w → wpAnyM P ops Q S m (fuel + 1) listed a w := by
 intro fuel
 induction fuel with
 | zero =>
  intro listed a w _ hr hy hS H
  refine ⟨fun h => (by rw [h] at hr; cases hr), fun j hj => ?_⟩
  by_cases hji : j = i
  ·subst hji; exact hy.wpOpIn hi trivial ⟨by rw [getD_set_ne true (Ne.symm hmi)]; exact hS, H⟩
  ·have := ready_mono hj hji
   rw [H.1] at this
   cases this
 | succ fuel ih =>
  intro listed a w hfree hr hy hS H
  refine ⟨fun h => (by rw [h] at hr; cases hr), fun j hj => ?_⟩
  by_cases hji : j = i
  ·subst hji; exact hy.wpOpIn hi trivial ⟨by rw [getD_set_ne true (Ne.symm hmi)]; exact hS, H⟩
  ·have d := H.2 j (ready_mono hj hji)
   obtain ⟨hjun, oj, hoj, hall⟩ := mem_ready.1 hj
   have hnot : ∀ e ∈ oj.after, Region.binds .any e = true → e.on ≠ i := fun e he hb heq => by
    have d := hall e he hb
    have f := (mem_ready.1 hr).1
    rw [heq] at d
    rcases Nat.lt_or_ge i listed.size with h' | h'
    ·simp [h'] at f d; rw [f] at d; cases d
    ·simp [Array.getElem?_eq_none h'] at d
   have g := wpOpIn_putJ hoj (hfree j oj hoj hji hjun hnot) (fun cs b => hsel i oi cs b hi) (fun cs b => hsel j oj cs b hoj) hQ hy d
   have hfree' : ∀ k ok, ops[k]? = some ok → k ≠ i → (listed.setIfInBounds j true).getD k true = false →
     (∀ e ∈ ok.after, Region.binds .any e = true → e.on ≠ i) → oi.apart ops ok = true := fun k ok hk hki hun hno => by
    refine hfree k ok hk hki ?_ hno
    by_cases hjk : j = k
    ·subst hjk; exact hjun
    ·rw [getD_set_ne true hjk] at hun; exact hun
   refine wpOpIn_mono (fun a' w' h3 => ?_) g
   obtain ⟨hy', hjm, hk⟩ := h3
   rw [Array.setIfInBounds_comm _ _ (Ne.symm hji), getD_set_ne true (Ne.symm hmi)] at hjm
   skip
   refine ⟨hjm, ih (listed.setIfInBounds j true) a' w' hfree' (ready_mono hr (Ne.symm hji)) hy' hjm ?_⟩
   rw [Array.setIfInBounds_comm _ _ hji]
   exact hk
end
section
variable {P : Program} {n : Nat} {Q : Post} {s : Fm} {w : World} {ops : Array Oper} {S : World → Prop} {m fuel : Nat} {listed : Array Bool}
def Lm (P : Program) (n : Nat) (ops : Array Oper) (Q : Post) (S : World → Prop) (m fuel : Nat) (listed : Array Bool) (s : Fm) (w : World) : Prop := wpAnyM P ops (upQ n Q) S m fuel listed (s.act n) w
theorem xE {r : Option Nat} {id : Nat} {l : List Oper} (m N : Nat) (hN : Nat.beq l.length N = true) (hm : P.follows .mixedOrders = true) (hd : noDefers l.toArray = true)
  (h : ∀ w', Below w.heap.size w w' → ∃ S, Lm P n l.toArray Q S m N (Array.replicate N false) s w') : W r P n (.region id l.toArray true) Q s w := by
 refine W_draws N hN hm hd fun w' hw' => ?_
 obtain ⟨S, hS⟩ := h w' hw'
 unfold Li
 exact wpAnyIn_of_M _ _ _ _ hS
theorem M_take (i : Nat) (B : List Nat) {o : Oper} (v : Value) (hi : ops[i]? = some o) (hs : Region.noSelect ops = true) (hf : Region.free .any ops listed i = true) (hr : (Region.ready .any ops listed).contains i = true)
  (hc : noCall o.op = true) (hw : wantB ops n s o.guard = true) (hb : waitB ops i B = true) (hB : freeB listed B = true) (hm : B.contains m = true) (hmi : Nat.beq m i = false) (hq : NoPanic Q) (hS : S w) (hrun : RunOk P n o s S v) (h : Lm P n ops Q S m fuel (listed.setIfInBounds i true) (s.put o.dst v) w) : Lm P n ops Q S m (fuel + 1) listed s w := by
 unfold Lm at h ⊢
 refine wpAnyM_first (v := v) hi (Region.noSelect_spec hs) ?_ hb (List.contains_iff_mem.1 hm) (fun e => by rw [e, Nat.beq_refl] at hmi; cases hmi) fuel listed (s.act n) w (Region.free_spec hi hf) (by simpa using hr) hB ⟨.inl ⟨?_, ?_⟩, fun w => about_none hc w _⟩ hS ?_
 ·intro c a w hp
  obtain ⟨s', _, hp⟩ := hp
  exact absurd hp (hq c s' w)
 ·rw [xX]; exact hw
 ·intro w' hw'; rw [xV]; exact hrun w' hw'
 ·rw [xZ]; exact h
theorem M_pure (i : Nat) {o : Oper} (v : Value) (hi : ops[i]? = some o) (hs : Region.noSelect ops = true) (hf : Region.free .any ops listed i = true) (hr : (Region.ready .any ops listed).contains i = true)
  (hc : noCall o.op = true) (hw : wantB ops n s o.guard = true) (hmi : Nat.beq m i = false) (hq : NoPanic Q) (hS : listed.getD m true = true ∨ S w) (hrun : RunOk P n o s (fun _ => True) v) (h : Lm P n ops Q S m fuel (listed.setIfInBounds i true) (s.put o.dst v) w) : Lm P n ops Q S m (fuel + 1) listed s w := by
 unfold Lm at h ⊢
 refine wpAnyM_pure (v := v) hi (Region.noSelect_spec hs) ?_ (fun e => by rw [e, Nat.beq_refl] at hmi; cases hmi) fuel listed (s.act n) w (Region.free_spec hi hf) (by simpa using hr) ⟨.inl ⟨?_, ?_⟩, fun w => about_none hc w _⟩ hS ?_
 ·intro c a w hp
  obtain ⟨s', _, hp⟩ := hp
  exact absurd hp (hq c s' w)
 ·rw [xX]; exact hw
 ·intro w' hw'; rw [xV]; exact hrun w' hw'
 ·rw [xZ]; exact h
theorem yW (hr : Region.ready .any ops listed = []) (h : Q .normal s w) : Lm P n ops Q S m fuel listed s w := by
 unfold Lm
 cases fuel with
 | zero => exact ⟨hr, s, rfl, h⟩
 | succ k => exact ⟨fun _ => ⟨s, rfl, h⟩, by rw [hr]; simp⟩
def Mop (P : Program) (n : Nat) (ops : Array Oper) (Q : Post) (S : World → Prop) (m fuel : Nat) (listed : Array Bool) (i : Nat) (s : Fm) (w : World) : Prop :=
  wpOpIn (Fw none) 0 P ops (upQ n Q) i (fun a' w' => ((listed.setIfInBounds i true).getD m true = true ∨ S w') ∧ wpAnyM P ops (upQ n Q) S m fuel (listed.setIfInBounds i true) a' w') (s.act n) w
theorem yI (i : Nat) (hr : Region.ready .any ops listed = [i]) (h : Mop P n ops Q S m fuel listed i s w) : Lm P n ops Q S m (fuel + 1) listed s w := by
 unfold Lm
 refine ⟨fun h0 => (by rw [hr] at h0; cases h0), fun j hj => ?_⟩
 rw [hr] at hj
 obtain rfl : j = i := by simpa using hj
 exact h
theorem M_all2 (i k : Nat) (hr : Region.ready .any ops listed = [i, k]) (h : Mop P n ops Q S m fuel listed i s w) (h2 : Mop P n ops Q S m fuel listed k s w) : Lm P n ops Q S m (fuel + 1) listed s w := by
 unfold Lm
 refine ⟨fun h0 => (by rw [hr] at h0; cases h0), fun j hj => ?_⟩
 rw [hr] at hj
 simp only [List.mem_cons, List.not_mem_nil, or_false] at hj
 rcases hj with rfl | rfl
 ·exact h
 ·exact h2
theorem yX (i : Nat) {o : Oper} (hi : ops[i]? = some o)
  (h : L none P n ops (fun e s' w' => e = .normal ∧ ((listed.setIfInBounds i true).getD m true = true ∨ S w') ∧ Lm P n ops Q S m fuel (listed.setIfInBounds i true) s' w') [o] s w) (hg : wantB ops n s o.guard = true) : Mop P n ops Q S m fuel listed i s w := by
 unfold Mop wpOpIn
 rw [hi]
 rw [L_iff] at h
 unfold wpListIn at h
 have hwant : Region.wanted o (yielded ops (s.act n).tmps) = true := by rw [xX]; exact hg
 rw [if_pos hwant] at h
 simp only [hwant, if_true]
 have key : ∀ {a w'}, wpListIn (Fw none) 0 P ops (upQ n fun e s' w' => e = .normal ∧ ((listed.setIfInBounds i true).getD m true = true ∨ S w') ∧ Lm P n ops Q S m fuel (listed.setIfInBounds i true) s' w') [] a w' → (((listed.setIfInBounds i true).getD m true = true ∨ S w') ∧ wpAnyM P ops (upQ n Q) S m fuel (listed.setIfInBounds i true) a w') := by
  rintro a w' ⟨s', rfl, _, hL⟩
  exact hL
 have h := Oper.wpIn_mono (fun a w => key) h
 unfold Oper.wpIn at h ⊢
 refine ⟨h.1, ?_⟩
 have b := h.2
 generalize (o.semAt (Fw none).round (s.act n).eval).run P w = r at b
 cases r with
 | ok x w' =>
  cases x <;> simp only [Oper.uponIn] at b ⊢ <;> first
   | exact b
   | exact ⟨b.1, CallsIn.mono b.2 (fun e w'' he => by
     cases e with
     | returned v => exact he
     | panicked c => obtain ⟨s', _, he, _⟩ := he; cases he
     | outgrown => exfalso; obtain ⟨_, _, s', _, he, _⟩ := he; cases he)⟩
   | exact ⟨b.1, RoundIn.mono b.2 (fun e w'' he => by
     cases e with
     | returned v => exact he
     | panicked c => obtain ⟨s', _, he, _⟩ := he; cases he
     | outgrown => exfalso; obtain ⟨_, _, s', _, he, _⟩ := he; cases he)⟩
 | halt x w' =>
  cases x <;> first
   | (exfalso; simp only [Oper.uponIn] at b; obtain ⟨s', _, he, _⟩ := b; cases he)
   | exact b
theorem mt (i : Nat) (B : List Nat) {o : Oper} (hi : ops[i]? = some o) (v : Value) (hS : S w) (hrun : RunOk P n o s S v) (h : Lm P n ops Q S m fuel (listed.setIfInBounds i true) (s.put o.dst v) w)
  (hs : Region.noSelect ops = true := by kernel_rfl) (hf : Region.free .any ops listed i = true := by kernel_rfl) (hr : (Region.ready .any ops listed).contains i = true := by kernel_rfl) (hc : noCall o.op = true := by kernel_rfl) (hw : wantB ops n s o.guard = true := by kernel_rfl) (hb : waitB ops i B = true := by kernel_rfl) (hB : freeB listed B = true := by kernel_rfl) (hm : B.contains m = true := by kernel_rfl) (hmi : Nat.beq m i = false := by kernel_rfl)
  (hq : NoPanic Q := by with_reducible first | exact zE | exact xB | exact wD) : Lm P n ops Q S m (fuel + 1) listed s w :=
 M_take i B v hi hs hf hr hc hw hb hB hm hmi hq hS hrun h
theorem mp (i : Nat) {o : Oper} (hi : ops[i]? = some o) (v : Value) (hS : listed.getD m true = true ∨ S w) (hrun : RunOk P n o s (fun _ => True) v) (h : Lm P n ops Q S m fuel (listed.setIfInBounds i true) (s.put o.dst v) w)
  (hs : Region.noSelect ops = true := by kernel_rfl) (hf : Region.free .any ops listed i = true := by kernel_rfl) (hr : (Region.ready .any ops listed).contains i = true := by kernel_rfl) (hc : noCall o.op = true := by kernel_rfl) (hw : wantB ops n s o.guard = true := by kernel_rfl) (hmi : Nat.beq m i = false := by kernel_rfl)
  (hq : NoPanic Q := by with_reducible first | exact zE | exact xB | exact wD) : Lm P n ops Q S m (fuel + 1) listed s w :=
 M_pure i v hi hs hf hr hc hw hmi hq hS hrun h
end
attribute [irreducible] Mop Lm
section
variable {α : Type} {f : α → Value}
variable {P : Program} {n : Nat} {s : Fm} {d : Option Tmp} {ty : TypeId} {pos : String} {af : Array Edge} {g : Option (Nat × Bool)} {S : World → Prop}
theorem R_glook {T kt et : TypeId} {X Y : Operand} {k : IntKind} {v : Value} (a0 : α) (x : Int) (l : List (Int × α)) (ht : P.underlying T = some (.map kt et)) (hk : P.underlying kt = some (.int k)) (hz : (P.info? et).map (·.zero) = some (some (f a0)))
  (hX : s.ev n X = v) (hY : s.ev n Y = .int k x) (hv : ∀ w, S w → GmAt k f w v l) : RunOk P n ⟨d, .lookup T X Y true, ty, pos, af, g⟩ s S (.tuple #[f ((gget l x).getD a0), .bool (gget l x).isSome]) := by
 intro w hw
 simp only [execOp, hX, hY, Sem.run_bind, run_lookG a0 x l true ht hk hz (hv w hw), Result.andThen_ok, Sem.run_pure]; rfl
end
section
variable {α : Type} {fm : α → Value}
variable {r : Option Nat} {P : Program} {n : Nat} {Q : Post} {s : Fm} {w : World} {ops : Array Oper} {rest : List Oper}
variable {d : Option Tmp} {ty : TypeId} {pos : String} {af : Array Edge}
end
section
variable {α : Type} {f : α → Value}
variable {P : Program} {n : Nat} {K : Fm → Prop} {s : Fm} {w : World} {ops : Array Oper} {rest : List Oper}
variable {d : Option Tmp} {ty : TypeId} {pos : String} {af : Array Edge}
end
def PtAt (v : Value) (cs : List Value) (A : World) : Prop := ∃ g off, v = .pointer (some ⟨g, off, none⟩) ∧ ∀ j u, cs[j]? = some u → A.cell? ⟨g, off + j, none⟩ = some u
end Go.FK
end

/- === FKai === -/
section
/- FKai: a call walked in place; an iterator that hands its yield on to another one. My own text. -/
namespace Go.FK
open Go Go.RowKit
section
variable {r : Option Nat} {P : Program} {n : Nat} {Q : Post} {s : Fm} {w : World} {ops : Array Oper} {rest : List Oper}
variable {d : Option Tmp} {ty : TypeId} {pos : String} {af : Array Edge}
theorem L_inline {op : Op} (f : FuncId) (args : List Value) (hrun : (execOp (s.ev n) ⟨d, op, ty, pos, af, none⟩).run P w = .ok (.enter f args.toArray) w) (hd : notDefer op = true)
  (hc : Calls P f args.toArray w (Ret fun v w' => L r P n ops Q rest (s.put d v) w')) : L r P n ops Q (⟨d, op, ty, pos, af, none⟩ :: rest) s w :=
 L_call f args hrun hd hc (fun _ _ h => h)
end
def encVal (v : Value) : List Value := [v]
end Go.FK
end

/- === Wcb1 === -/
section
/- Walks, written by my program walk.py out of the specification cb1.py: each theorem says what one function returns and that it leaves memory as it was. -/
namespace Go.Proofs.YtddnhlobnembaaaGreatDoor
open Go Go.RowKit Go.FK _root_.Go.Proofs.Tryz
set_option maxHeartbeats 4000000
set_option maxRecDepth 100000
theorem el22 : Elem Tryz.prog 22 26 3 12 := ⟨underlying22, zk, rfl⟩
theorem c_point (r : Int) (w : World) :
  Calls Tryz.prog 95 #[(I3 r)] w (Ret fun v w' => v = (.bool (ptB r)) ∧ Below w.heap.size w w') := by
 refine wG 9 func95 rfl ?_
 have a := Below.refl w.heap.size w
 refine wR (zI (nR (zH (zGe .i32 r 0 ?_ ?_))))
 ·intro d
  refine zH (zw (zH (zw (zLe .i32 r 1114111 ?_ ?_))))
  ·intro e
   exact wB (zI (nQ (zW (yF [(.bool true)] ⟨eb (by exact (ptB_y zo zo).symm), a⟩))))
  intro b
  exact wB (zI (nQ (zW (yF [(.bool false)] ⟨eb (by exact (ptB_n zo).symm), a⟩))))
 intro c
 exact zH (zs (zs (wM (zI (nQ (zW (yF [(.bool false)] ⟨eb (by exact (ptB_n zo).symm), a⟩)))))))
theorem c_may (xa : Int) (xo : Int) (xs : Int) (w : World) :
  Calls Tryz.prog 61 #[(Value.agg #[(I3 xa), (I3 xo), (U8 xs)])] w (Ret fun v w' => v = (I6 (mayE (xa, xo, xs))) ∧ Below w.heap.size w w') := by
 refine wG 30 func61 rfl ?_
 have b := Below.refl w.heap.size w
 refine wR (zN [(I3 xa), (I3 xo), (U8 xs)] 26 ?_)
 intro f r c
 have g := c.ge b.size
 have a := c.here
 refine zI (nW (wR (zFO 0 a rfl (zc (c_point xa _ ) ?_))))
 rintro _ q ⟨rfl, d⟩
 refine yK (ptB xa) ?_ ?_
 ·intro s
  have a := zC a d
  refine znt true (zH (zw (zr (pt f 1) (zw (zO 1 a rfl (zw (zc (c_point xo _ ) ?_)))))))
  rintro _ t ⟨rfl, e⟩
  refine yK (ptB xo) ?_ ?_
  ·intro o
   have a := zC a e
   refine zw (znt true (wM (zH (zw (zr (pt f 0) (zw (zO 0 a rfl (zw (zr (pt f 1) (zw (zO 1 a rfl (zw (zEq .i32 xa xo ?_ ?_)))))))))))))
   ·intro j
    have b := ((b.tr c.below).tr d).tr e
    exact wM (zH (zs (zs (zs (zs (zs (zs (zs (zs (wB (nQ (zT (wR (zI (nQ (zW (zK (yF [(I6 80)] ⟨e6 (by exact (mayE_n (may_3 za)).symm), b⟩))))))))))))))))))
   intro m
   refine wM (zH (zw (zr (pt f 2) (zw (zO 2 a rfl (zw (zNe .u8 xs 1 ?_ ?_)))))))
   ·intro n
    refine zw (zH (zw (zr (pt f 2) (zw (zO 2 a rfl (zw (zNe .u8 xs 2 ?_ ?_)))))))
    ·intro i
     have b := ((b.tr c.below).tr d).tr e
     exact zw (wB (wM (nQ (zT (wR (zI (nQ (zW (zK (yF [(I6 80)] ⟨e6 (by exact (mayE_n (may_4 za za)).symm), b⟩))))))))))
    intro l
    have b := ((b.tr c.below).tr d).tr e
    exact zw (wB (wM (nQ (zF (zP (zD (wR (zI (nQ (zW (yF [(I6 0)] ⟨e6 (by exact (mayE_y (may_y za za za (by first | exact .inl za | exact .inr za))).symm), b⟩)))))))))))
   intro p
   have b := ((b.tr c.below).tr d).tr e
   exact zw (zH (zs (zs (zs (zw (wM (wM (nQ (zF (zP (zD (wR (zI (nQ (zW (yF [(I6 0)] ⟨e6 (by exact (mayE_y (may_y za za za (by first | exact .inl za | exact .inr za))).symm), b⟩))))))))))))))))
  intro h
  have b := ((b.tr c.below).tr d).tr e
  exact zw (znt false (wM (zH (zs (zs (zs (zs (zs (wB (zH (zs (zs (zs (zs (zs (zs (zs (zs (wB (nQ (zT (wR (zI (nQ (zW (zK (yF [(I6 80)] ⟨e6 (by exact (mayE_n (may_2 za)).symm), b⟩)))))))))))))))))))))))))))
 intro k
 have b := (b.tr c.below).tr d
 exact znt false (zH (zs (zs (zs (zs (wB (zH (zs (zs (zs (zs (zs (wB (zH (zs (zs (zs (zs (zs (zs (zs (zs (wB (nQ (zT (wR (zI (nQ (zW (zK (yF [(I6 80)] ⟨e6 (by exact (mayE_n (may_1 za)).symm), b⟩)))))))))))))))))))))))))))))))
theorem c_asked (r : Int) (w : World) :
  Calls Tryz.prog 57 #[(I3 r)] w (Ret fun v w' => v = (I3 (askB r)) ∧ Below w.heap.size w w') := by
 refine wG 7 func57 rfl ?_
 have a := Below.refl w.heap.size w
 refine wR (zI (nW (wR (zH (zc (c_point r _ ) ?_)))))
 rintro _ e ⟨rfl, b⟩
 refine yK (ptB r) ?_ ?_
 ·intro c
  have a := a.tr b
  exact znt true (nQ (zF (zP (zD (wR (zH (zI (nQ (zW (yF [(I3 r)] ⟨e3 (by exact (ask_y za).symm), a⟩))))))))))
 intro d
 have a := a.tr b
 exact znt false (nQ (zT (wR (zI (nQ (zW (zK (yF [(I3 65533)] ⟨e3 (by exact (ask_n za).symm), a⟩))))))))
theorem c_there (a : Nat) (m_rs : Nat) (rs : List (Int × (Int × Int × Int))) (b : Value) (ts : List (Int × Int)) (w : World) (c : w.heap[a]? = some (.cells [(.map (some m_rs)), b].toArray 69 (0, 0))) (e : GmAt .i32 vBrk w (.map (some m_rs)) rs) (d : GmAt .i32 vI32 w b ts) :
  Calls Tryz.prog 51 #[(pt a 0)] w (Ret fun v w' => v = (.bool true) ∧ Below w.heap.size w w') := by
 refine wG 12 func51 rfl ?_
 have f := Below.refl w.heap.size w
 exact wR (zI (nR (zH (zr (.bool true) (zH (zw (zH (zw (zr (pt a 0) (zw (zr (pt a 0) (zw (zO 0 c rfl (zw (zr (.bool true) (wB (zI (nQ (zW (yF [(.bool true)] ⟨rfl, f⟩))))))))))))))))))))
theorem c_lone (p : Nat) (m_rs : Nat) (rs : List (Int × (Int × Int × Int))) (s : Value) (ts : List (Int × Int)) (xa : Int) (xo : Int) (xs : Int) (w : World) (d : w.heap[p]? = some (.cells [(.map (some m_rs)), s].toArray 69 (0, 0))) (b : GmAt .i32 vBrk w (.map (some m_rs)) rs) (ad : GmAt .i32 vI32 w s ts) :
  Calls Tryz.prog 30 #[(pt p 0), (Value.agg #[(I3 xa), (I3 xo), (U8 xs)])] w (Ret fun v w' => v = (.bool (loneM rs (xa, xo, xs))) ∧ Below w.heap.size w w') := by
 refine wG 33 func30 rfl ?_
 have e := Below.refl w.heap.size w
 refine wR (zN [(I3 xa), (I3 xo), (U8 xs)] 26 ?_)
 intro t w2 q
 have ab := q.ge e.size
 have a := q.here
 refine zI (nW (xE 11 13 zk zk zk ?_))
 intro w4 r
 refine ⟨fun w => (w.heap[p]? = some (.cells [(.map (some m_rs)), s].toArray 69 (0, 0))) ∧ (w.heap[t]? = some (.cells [(I3 xa), (I3 xo), (U8 xs)].toArray 26 (0, 0))) ∧ (GmAt .i32 vBrk w (.map (some m_rs)) rs), ?_⟩
 have d := zC (zC d q.below) r
 have a := zC a r
 have b := (b.below q.below).below r
 refine mp 0 rfl (pt p 0) (.inr ⟨d, a, b⟩) zg (hq := (zA zE)) (mp 1 rfl (pt p 0) (.inr ⟨d, a, b⟩) zg (hq := (zA zE)) (mp 2 rfl (pt p 0) (.inr ⟨d, a, b⟩) zg (hq := (zA zE)) (mt 3 [3, 6, 7, 8, 9, 11, 12] rfl (.map (some m_rs)) ⟨d, a, b⟩ (yM p 0 (.map (some m_rs)) zk zf (fun w2 h2 => yO h2.1 rfl)) (hq := (zA zE)) (mp 4 rfl (pt t 1) (.inr ⟨d, a, b⟩) zg (hq := (zA zE)) (mt 5 [5, 6, 7, 8, 9, 11, 12] rfl (I3 xo) ⟨d, a, b⟩ (yM t 1 (I3 xo) zk zf (fun w2 h2 => yO h2.2.1 rfl)) (hq := (zA zE)) (mt 6 [6, 7, 8, 9, 11, 12] rfl (.tuple #[(Value.agg #[(I3 ((lookB rs xo).1)), (I3 ((lookB rs xo).2.1)), (U8 ((lookB rs xo).2.2))]), (.bool ((gget rs xo).isSome))]) ⟨d, a, b⟩ (R_glook (k := .i32) (f := vBrk) (0, 0, 0) xo rs underlying66 underlying21 zk zk zk (fun w2 h2 => h2.2.2)) (hq := (zA zE)) (mp 7 rfl (.tuple #[(Value.agg #[(I3 ((lookB rs xo).1)), (I3 ((lookB rs xo).2.1)), (U8 ((lookB rs xo).2.2))]), (.bool ((gget rs xo).isSome))]) (.inr ⟨d, a, b⟩) zg (hq := (zA zE)) (mp 8 rfl (Value.agg #[(I3 ((lookB rs xo).1)), (I3 ((lookB rs xo).2.1)), (U8 ((lookB rs xo).2.2))]) (.inr ⟨d, a, b⟩) zg (hq := (zA zE)) ?_))))))))
 refine M_all2 9 10 zk ?_ ?_
 ·skip
  refine yX 9 rfl ?_ rfl
  refine zr (.bool ((gget rs xo).isSome)) (yK ((gget rs xo).isSome) ?_ ?_)
  ·intro h6
   refine zS ?_
   refine ⟨rfl, .inr ⟨d, a, b⟩, yI 10 zk (yX 10 rfl ?_ rfl)⟩
   refine zN [(I3 0), (I3 0), (U8 0)] 26 ?_
   intro b7 w8 m
   have i := yZ (yC a) m
   have e := (e.tr q.below).tr r
   have g := m.ge e.size
   have c := m.here
   refine zS ?_
   have d := zC d m.below
   have a := zC a m.below
   have b := b.below m.below
   refine ⟨rfl, .inr ⟨d, a, b⟩, yI 11 zk (yX 11 rfl ?_ rfl)⟩
   refine zAW [(I3 ((lookB rs xo).1)), (I3 ((lookB rs xo).2.1)), (U8 ((lookB rs xo).2.2))] c ?_
   intro ag n
   have c := n.here
   refine zS ?_
   refine ⟨rfl, .inl zk, ?_⟩
   have a := zG a n i
   refine mp 12 rfl (.bool true) (.inl zk) zg (hq := (zA zE)) (yW zk (zD (wR (zH (znt true (zH (zw (zr (pt b7 1) (zw (zO 1 c rfl (zw (zr (pt t 0) (zw (zO 0 a rfl (zw (zNe .i32 ((lookB rs xo).2.1) xa ?_ ?_))))))))))))))))
   ·intro ak
    have e := (e.tr m.below).trans (n.below g)
    exact wM (zH (zs (zs (zs (zs (zs (wB (zI (nQ (zW (yF [(.bool true)] ⟨eb (by exact (lone_2 za).symm), e⟩)))))))))))
   intro ap
   refine wM (zH (zw (zr (pt b7 2) (zw (zO 2 c rfl (zw (zr (pt t 2) (zw (zO 2 a rfl (zw (zEq .u8 ((lookB rs xo).2.2) xs ?_ ?_)))))))))))
   ·intro au
    have e := (e.tr m.below).trans (n.below g)
    exact wM (zI (nQ (zW (yF [(.bool true)] ⟨eb (by exact (lone_3 za).symm), e⟩))))
   intro ai
   have e := (e.tr m.below).trans (n.below g)
   exact wM (zI (nQ (zW (yF [(.bool false)] ⟨eb (by exact (lone_n za za za).symm), e⟩))))
  intro an
  refine zS ?_
  refine ⟨rfl, .inr ⟨d, a, b⟩, yI 10 zk (yX 10 rfl ?_ rfl)⟩
  refine zN [(I3 0), (I3 0), (U8 0)] 26 ?_
  intro a4 ah j
  have e := (e.tr q.below).tr r
  have g := j.ge e.size
  have c := j.here
  refine zS ?_
  have d := zC d j.below
  have a := zC a j.below
  have b := b.below j.below
  refine ⟨rfl, .inr ⟨d, a, b⟩, yI 11 zk (yX 11 rfl ?_ rfl)⟩
  refine zAW [(I3 ((lookB rs xo).1)), (I3 ((lookB rs xo).2.1)), (U8 ((lookB rs xo).2.2))] c ?_
  intro a0 y
  refine zS ?_
  refine ⟨rfl, .inl zk, ?_⟩
  have e := (e.tr j.below).trans (y.below g)
  exact mp 12 rfl (.bool false) (.inl zk) zg (hq := (zA zE)) (yW zk (zD (wR (zH (znt false (zH (zs (zs (zs (zs (zs (wB (zH (zs (zs (zs (zs (zs (wB (zI (nQ (zW (yF [(.bool true)] ⟨eb (by exact (lone_1 za).symm), e⟩)))))))))))))))))))))))
 skip
 refine yX 10 rfl ?_ rfl
 refine zN [(I3 0), (I3 0), (U8 0)] 26 ?_
 intro u az h
 have i := yZ (yC a) h
 have e := (e.tr q.below).tr r
 have g := h.ge e.size
 have c := h.here
 refine zS ?_
 have d := zC d h.below
 have a := zC a h.below
 have b := b.below h.below
 refine ⟨rfl, .inr ⟨d, a, b⟩, M_all2 9 11 zk ?_ ?_⟩
 ·skip
  refine yX 9 rfl ?_ rfl
  refine zr (.bool ((gget rs xo).isSome)) (yK ((gget rs xo).isSome) ?_ ?_)
  ·intro a1
   refine zS ?_
   refine ⟨rfl, .inr ⟨d, a, b⟩, yI 11 zk (yX 11 rfl ?_ rfl)⟩
   refine zAW [(I3 ((lookB rs xo).1)), (I3 ((lookB rs xo).2.1)), (U8 ((lookB rs xo).2.2))] c ?_
   intro a3 o
   have c := o.here
   refine zS ?_
   refine ⟨rfl, .inl zk, ?_⟩
   have a := zG a o i
   refine mp 12 rfl (.bool true) (.inl zk) zg (hq := (zA zE)) (yW zk (zD (wR (zH (znt true (zH (zw (zr (pt u 1) (zw (zO 1 c rfl (zw (zr (pt t 0) (zw (zO 0 a rfl (zw (zNe .i32 ((lookB rs xo).2.1) xa ?_ ?_))))))))))))))))
   ·intro ao
    have e := (e.tr h.below).trans (o.below g)
    exact wM (zH (zs (zs (zs (zs (zs (wB (zI (nQ (zW (yF [(.bool true)] ⟨eb (by exact (lone_2 za).symm), e⟩)))))))))))
   intro av
   refine wM (zH (zw (zr (pt u 2) (zw (zO 2 c rfl (zw (zr (pt t 2) (zw (zO 2 a rfl (zw (zEq .u8 ((lookB rs xo).2.2) xs ?_ ?_)))))))))))
   ·intro ae
    have e := (e.tr h.below).trans (o.below g)
    exact wM (zI (nQ (zW (yF [(.bool true)] ⟨eb (by exact (lone_3 za).symm), e⟩))))
   intro ar
   have e := (e.tr h.below).trans (o.below g)
   exact wM (zI (nQ (zW (yF [(.bool false)] ⟨eb (by exact (lone_n za za za).symm), e⟩))))
  intro am
  refine zS ?_
  refine ⟨rfl, .inr ⟨d, a, b⟩, yI 11 zk (yX 11 rfl ?_ rfl)⟩
  refine zAW [(I3 ((lookB rs xo).1)), (I3 ((lookB rs xo).2.1)), (U8 ((lookB rs xo).2.2))] c ?_
  intro aj z
  refine zS ?_
  refine ⟨rfl, .inl zk, ?_⟩
  have e := (e.tr h.below).trans (z.below g)
  exact mp 12 rfl (.bool false) (.inl zk) zg (hq := (zA zE)) (yW zk (zD (wR (zH (znt false (zH (zs (zs (zs (zs (zs (wB (zH (zs (zs (zs (zs (zs (wB (zI (nQ (zW (yF [(.bool true)] ⟨eb (by exact (lone_1 za).symm), e⟩)))))))))))))))))))))))
 skip
 refine yX 11 rfl ?_ rfl
 refine zAW [(I3 ((lookB rs xo).1)), (I3 ((lookB rs xo).2.1)), (U8 ((lookB rs xo).2.2))] c ?_
 intro aw l
 have c := l.here
 refine zS ?_
 refine ⟨rfl, .inl zk, yI 9 zk (yX 9 rfl ?_ rfl)⟩
 refine zr (.bool ((gget rs xo).isSome)) (yK ((gget rs xo).isSome) ?_ ?_)
 ·intro ax
  refine zS ?_
  refine ⟨rfl, .inl zk, ?_⟩
  have a := zG a l i
  refine mp 12 rfl (.bool true) (.inl zk) zg (hq := (zA zE)) (yW zk (zD (wR (zH (znt true (zH (zw (zr (pt u 1) (zw (zO 1 c rfl (zw (zr (pt t 0) (zw (zO 0 a rfl (zw (zNe .i32 ((lookB rs xo).2.1) xa ?_ ?_))))))))))))))))
  ·intro af
   have e := (e.tr h.below).trans (l.below g)
   exact wM (zH (zs (zs (zs (zs (zs (wB (zI (nQ (zW (yF [(.bool true)] ⟨eb (by exact (lone_2 za).symm), e⟩)))))))))))
  intro ay
  refine wM (zH (zw (zr (pt u 2) (zw (zO 2 c rfl (zw (zr (pt t 2) (zw (zO 2 a rfl (zw (zEq .u8 ((lookB rs xo).2.2) xs ?_ ?_)))))))))))
  ·intro al
   have e := (e.tr h.below).trans (l.below g)
   exact wM (zI (nQ (zW (yF [(.bool true)] ⟨eb (by exact (lone_3 za).symm), e⟩))))
  intro aq
  have e := (e.tr h.below).trans (l.below g)
  exact wM (zI (nQ (zW (yF [(.bool false)] ⟨eb (by exact (lone_n za za za).symm), e⟩))))
 intro a2
 refine zS ?_
 refine ⟨rfl, .inl zk, ?_⟩
 have e := (e.tr h.below).trans (l.below g)
 exact mp 12 rfl (.bool false) (.inl zk) zg (hq := (zA zE)) (yW zk (zD (wR (zH (znt false (zH (zs (zs (zs (zs (zs (wB (zH (zs (zs (zs (zs (zs (wB (zI (nQ (zW (yF [(.bool true)] ⟨eb (by exact (lone_1 za).symm), e⟩)))))))))))))))))))))))
theorem c_Bracket (j : Nat) (m_rs : Nat) (rs : List (Int × (Int × Int × Int))) (p : Value) (ts : List (Int × Int)) (r : Int) (w : World) (c : w.heap[j]? = some (.cells [(.map (some m_rs)), p].toArray 69 (0, 0))) (a : GmAt .i32 vBrk w (.map (some m_rs)) rs) (aj : GmAt .i32 vI32 w p ts) :
  Calls Tryz.prog 23 #[(pt j 0), (I3 r)] w (Ret fun v w' => v = (.tuple #[(I3 ((brkF rs r).1)), (U8 ((brkF rs r).2))]) ∧ Below w.heap.size w w') := by
 refine wG 27 func23 rfl ?_
 have d := Below.refl w.heap.size w
 refine wR (zI (zI (nW (wR (zH (zc (c_there j m_rs rs p ts _ c a aj) ?_))))))
 rintro _ w1 ⟨rfl, s⟩
 refine znt true (nQ (zF (zP (zD (yA (xE 11 13 zk zk zk ?_))))))
 intro w4 q
 refine ⟨fun w => (w.heap[j]? = some (.cells [(.map (some m_rs)), p].toArray 69 (0, 0))) ∧ (GmAt .i32 vBrk w (.map (some m_rs)) rs), ?_⟩
 have c := zC (zC c s) q
 have a := (a.below s).below q
 refine mp 0 rfl (pt j 0) (.inr ⟨c, a⟩) zg (hq := (zA zE)) (mp 1 rfl (pt j 0) (.inr ⟨c, a⟩) zg (hq := (zA zE)) (mp 2 rfl (pt j 0) (.inr ⟨c, a⟩) zg (hq := (zA zE)) (mt 3 [3, 6, 7, 8, 9, 11, 12] rfl (.map (some m_rs)) ⟨c, a⟩ (yM j 0 (.map (some m_rs)) zk zf (fun w2 h2 => yO h2.1 rfl)) (hq := (zA zE)) (mp 4 rfl (I3 r) (.inr ⟨c, a⟩) zg (hq := (zA zE)) ?_))))
 refine M_all2 5 10 zk ?_ ?_
 ·skip
  refine yX 5 rfl ?_ rfl
  refine zc (c_asked r _ ) ?_
  rintro _ w6 ⟨rfl, y⟩
  refine zS ?_
  have c := zC c y
  have a := a.below y
  refine ⟨rfl, .inr ⟨c, a⟩, mt 6 [6, 7, 8, 9, 11, 12] rfl (.tuple #[(Value.agg #[(I3 ((lookB rs (askB r)).1)), (I3 ((lookB rs (askB r)).2.1)), (U8 ((lookB rs (askB r)).2.2))]), (.bool ((gget rs (askB r)).isSome))]) ⟨c, a⟩ (R_glook (k := .i32) (f := vBrk) (0, 0, 0) (askB r) rs underlying66 underlying21 zk zk zk (fun w2 h2 => h2.2)) (hq := (zA zE)) (mp 7 rfl (.tuple #[(Value.agg #[(I3 ((lookB rs (askB r)).1)), (I3 ((lookB rs (askB r)).2.1)), (U8 ((lookB rs (askB r)).2.2))]), (.bool ((gget rs (askB r)).isSome))]) (.inr ⟨c, a⟩) zg (hq := (zA zE)) (mp 8 rfl (Value.agg #[(I3 ((lookB rs (askB r)).1)), (I3 ((lookB rs (askB r)).2.1)), (U8 ((lookB rs (askB r)).2.2))]) (.inr ⟨c, a⟩) zg (hq := (zA zE)) ?_))⟩
  refine M_all2 9 10 zk ?_ ?_
  ·skip
   refine yX 9 rfl ?_ rfl
   refine zr (.bool ((gget rs (askB r)).isSome)) (yK ((gget rs (askB r)).isSome) ?_ ?_)
   ·intro h9
    refine zS ?_
    refine ⟨rfl, .inr ⟨c, a⟩, yI 10 zk (yX 10 rfl ?_ rfl)⟩
    refine zN [(I3 0), (I3 0), (U8 0)] 26 ?_
    intro z a0 m
    have d := ((d.tr s).tr q).tr y
    have e := m.ge d.size
    have b := m.here
    refine zS ?_
    have c := zC c m.below
    have a := a.below m.below
    refine ⟨rfl, .inr ⟨c, a⟩, yI 11 zk (yX 11 rfl ?_ rfl)⟩
    refine zAW [(I3 ((lookB rs (askB r)).1)), (I3 ((lookB rs (askB r)).2.1)), (U8 ((lookB rs (askB r)).2.2))] b ?_
    intro a4 aa
    have b := aa.here
    refine zS ?_
    refine ⟨rfl, .inl zk, mp 12 rfl (.bool true) (.inl zk) zg (hq := (zA zE)) (yW zk (zD (yA (wR (zH (znt true (nQ (zF (zP (zD (yA (xJ zk zk (Lq_run (pt z 1) zf (yQ z 1 (I3 ((lookB rs (askB r)).2.1)) zk zf (yO b rfl) (Lq_run (pt z 2) zf (yQ z 2 (U8 ((lookB rs (askB r)).2.2)) zk zf (yO b rfl) (Lq_as (Lq_as (yS ?_)))))))))))))))))))⟩
    intro ap ag
    have d := ((d.tr m.below).trans (aa.below e)).tr ag
    exact zD (zW (yF [(I3 ((lookB rs (askB r)).2.1)), (U8 ((lookB rs (askB r)).2.2))] ⟨xO (e3 (by (rw [brk_y za]; done))) (eu (by (rw [brk_y za]; done))), d⟩))
   intro ba
   refine zS ?_
   refine ⟨rfl, .inr ⟨c, a⟩, yI 10 zk (yX 10 rfl ?_ rfl)⟩
   refine zN [(I3 0), (I3 0), (U8 0)] 26 ?_
   intro bc ax n
   have d := ((d.tr s).tr q).tr y
   have e := n.ge d.size
   have b := n.here
   refine zS ?_
   have c := zC c n.below
   have a := a.below n.below
   refine ⟨rfl, .inr ⟨c, a⟩, yI 11 zk (yX 11 rfl ?_ rfl)⟩
   refine zAW [(I3 ((lookB rs (askB r)).1)), (I3 ((lookB rs (askB r)).2.1)), (U8 ((lookB rs (askB r)).2.2))] b ?_
   intro ao ai
   refine zS ?_
   refine ⟨rfl, .inl zk, ?_⟩
   have d := (d.tr n.below).trans (ai.below e)
   exact mp 12 rfl (.bool false) (.inl zk) zg (hq := (zA zE)) (yW zk (zD (yA (wR (zH (znt false (nQ (zT (wR (zI (zI (nQ (zW (zK (yF [(I3 0), (U8 0)] ⟨xO (e3 (by (rw [brk_n za]; done))) (eu (by (rw [brk_n za]; done))), d⟩)))))))))))))))
  skip
  refine yX 10 rfl ?_ rfl
  refine zN [(I3 0), (I3 0), (U8 0)] 26 ?_
  intro l be i
  have d := ((d.tr s).tr q).tr y
  have e := i.ge d.size
  have b := i.here
  refine zS ?_
  have c := zC c i.below
  have a := a.below i.below
  refine ⟨rfl, .inr ⟨c, a⟩, M_all2 9 11 zk ?_ ?_⟩
  ·skip
   refine yX 9 rfl ?_ rfl
   refine zr (.bool ((gget rs (askB r)).isSome)) (yK ((gget rs (askB r)).isSome) ?_ ?_)
   ·intro a7
    refine zS ?_
    refine ⟨rfl, .inr ⟨c, a⟩, yI 11 zk (yX 11 rfl ?_ rfl)⟩
    refine zAW [(I3 ((lookB rs (askB r)).1)), (I3 ((lookB rs (askB r)).2.1)), (U8 ((lookB rs (askB r)).2.2))] b ?_
    intro a8 ab
    have b := ab.here
    refine zS ?_
    refine ⟨rfl, .inl zk, mp 12 rfl (.bool true) (.inl zk) zg (hq := (zA zE)) (yW zk (zD (yA (wR (zH (znt true (nQ (zF (zP (zD (yA (xJ zk zk (Lq_run (pt l 1) zf (yQ l 1 (I3 ((lookB rs (askB r)).2.1)) zk zf (yO b rfl) (Lq_run (pt l 2) zf (yQ l 2 (U8 ((lookB rs (askB r)).2.2)) zk zf (yO b rfl) (Lq_as (Lq_as (yS ?_)))))))))))))))))))⟩
    intro am ad
    have d := ((d.tr i.below).trans (ab.below e)).tr ad
    exact zD (zW (yF [(I3 ((lookB rs (askB r)).2.1)), (U8 ((lookB rs (askB r)).2.2))] ⟨xO (e3 (by (rw [brk_y za]; done))) (eu (by (rw [brk_y za]; done))), d⟩))
   intro az
   refine zS ?_
   refine ⟨rfl, .inr ⟨c, a⟩, yI 11 zk (yX 11 rfl ?_ rfl)⟩
   refine zAW [(I3 ((lookB rs (askB r)).1)), (I3 ((lookB rs (askB r)).2.1)), (U8 ((lookB rs (askB r)).2.2))] b ?_
   intro an ae
   refine zS ?_
   refine ⟨rfl, .inl zk, ?_⟩
   have d := (d.tr i.below).trans (ae.below e)
   exact mp 12 rfl (.bool false) (.inl zk) zg (hq := (zA zE)) (yW zk (zD (yA (wR (zH (znt false (nQ (zT (wR (zI (zI (nQ (zW (zK (yF [(I3 0), (U8 0)] ⟨xO (e3 (by (rw [brk_n za]; done))) (eu (by (rw [brk_n za]; done))), d⟩)))))))))))))))
  skip
  refine yX 11 rfl ?_ rfl
  refine zAW [(I3 ((lookB rs (askB r)).1)), (I3 ((lookB rs (askB r)).2.1)), (U8 ((lookB rs (askB r)).2.2))] b ?_
  intro a1 u
  have b := u.here
  refine zS ?_
  refine ⟨rfl, .inl zk, yI 9 zk (yX 9 rfl ?_ rfl)⟩
  refine zr (.bool ((gget rs (askB r)).isSome)) (yK ((gget rs (askB r)).isSome) ?_ ?_)
  ·intro au
   refine zS ?_
   refine ⟨rfl, .inl zk, mp 12 rfl (.bool true) (.inl zk) zg (hq := (zA zE)) (yW zk (zD (yA (wR (zH (znt true (nQ (zF (zP (zD (yA (xJ zk zk (Lq_run (pt l 1) zf (yQ l 1 (I3 ((lookB rs (askB r)).2.1)) zk zf (yO b rfl) (Lq_run (pt l 2) zf (yQ l 2 (U8 ((lookB rs (askB r)).2.2)) zk zf (yO b rfl) (Lq_as (Lq_as (yS ?_)))))))))))))))))))⟩
   intro bb al
   have d := ((d.tr i.below).trans (u.below e)).tr al
   exact zD (zW (yF [(I3 ((lookB rs (askB r)).2.1)), (U8 ((lookB rs (askB r)).2.2))] ⟨xO (e3 (by (rw [brk_y za]; done))) (eu (by (rw [brk_y za]; done))), d⟩))
  intro a2
  refine zS ?_
  refine ⟨rfl, .inl zk, ?_⟩
  have d := (d.tr i.below).trans (u.below e)
  exact mp 12 rfl (.bool false) (.inl zk) zg (hq := (zA zE)) (yW zk (zD (yA (wR (zH (znt false (nQ (zT (wR (zI (zI (nQ (zW (zK (yF [(I3 0), (U8 0)] ⟨xO (e3 (by (rw [brk_n za]; done))) (eu (by (rw [brk_n za]; done))), d⟩)))))))))))))))
 skip
 refine yX 10 rfl ?_ rfl
 refine zN [(I3 0), (I3 0), (U8 0)] 26 ?_
 intro o ay h
 have d := (d.tr s).tr q
 have e := h.ge d.size
 have b := h.here
 refine zS ?_
 have c := zC c h.below
 have a := a.below h.below
 refine ⟨rfl, .inr ⟨c, a⟩, yI 5 zk (yX 5 rfl ?_ rfl)⟩
 refine zc (c_asked r _ ) ?_
 rintro _ aw ⟨rfl, g⟩
 refine zS ?_
 have c := zC c g
 have a := a.below g
 refine ⟨rfl, .inr ⟨c, a⟩, mt 6 [6, 7, 8, 9, 11, 12] rfl (.tuple #[(Value.agg #[(I3 ((lookB rs (askB r)).1)), (I3 ((lookB rs (askB r)).2.1)), (U8 ((lookB rs (askB r)).2.2))]), (.bool ((gget rs (askB r)).isSome))]) ⟨c, a⟩ (R_glook (k := .i32) (f := vBrk) (0, 0, 0) (askB r) rs underlying66 underlying21 zk zk zk (fun w2 h2 => h2.2)) (hq := (zA zE)) (mp 7 rfl (.tuple #[(Value.agg #[(I3 ((lookB rs (askB r)).1)), (I3 ((lookB rs (askB r)).2.1)), (U8 ((lookB rs (askB r)).2.2))]), (.bool ((gget rs (askB r)).isSome))]) (.inr ⟨c, a⟩) zg (hq := (zA zE)) (mp 8 rfl (Value.agg #[(I3 ((lookB rs (askB r)).1)), (I3 ((lookB rs (askB r)).2.1)), (U8 ((lookB rs (askB r)).2.2))]) (.inr ⟨c, a⟩) zg (hq := (zA zE)) ?_))⟩
 refine M_all2 9 11 zk ?_ ?_
 ·skip
  refine yX 9 rfl ?_ rfl
  refine zr (.bool ((gget rs (askB r)).isSome)) (yK ((gget rs (askB r)).isSome) ?_ ?_)
  ·intro bf
   refine zS ?_
   refine ⟨rfl, .inr ⟨c, a⟩, yI 11 zk (yX 11 rfl ?_ rfl)⟩
   have b := zC b g
   refine zAW [(I3 ((lookB rs (askB r)).1)), (I3 ((lookB rs (askB r)).2.1)), (U8 ((lookB rs (askB r)).2.2))] b ?_
   intro a3 ac
   have b := ac.here
   refine zS ?_
   refine ⟨rfl, .inl zk, mp 12 rfl (.bool true) (.inl zk) zg (hq := (zA zE)) (yW zk (zD (yA (wR (zH (znt true (nQ (zF (zP (zD (yA (xJ zk zk (Lq_run (pt o 1) zf (yQ o 1 (I3 ((lookB rs (askB r)).2.1)) zk zf (yO b rfl) (Lq_run (pt o 2) zf (yQ o 2 (U8 ((lookB rs (askB r)).2.2)) zk zf (yO b rfl) (Lq_as (Lq_as (yS ?_)))))))))))))))))))⟩
   intro a6 ak
   have d := (((d.tr h.below).tr g).trans (ac.below e)).tr ak
   exact zD (zW (yF [(I3 ((lookB rs (askB r)).2.1)), (U8 ((lookB rs (askB r)).2.2))] ⟨xO (e3 (by (rw [brk_y za]; done))) (eu (by (rw [brk_y za]; done))), d⟩))
  intro a5
  refine zS ?_
  refine ⟨rfl, .inr ⟨c, a⟩, yI 11 zk (yX 11 rfl ?_ rfl)⟩
  have b := zC b g
  refine zAW [(I3 ((lookB rs (askB r)).1)), (I3 ((lookB rs (askB r)).2.1)), (U8 ((lookB rs (askB r)).2.2))] b ?_
  intro ar ah
  refine zS ?_
  refine ⟨rfl, .inl zk, ?_⟩
  have d := ((d.tr h.below).tr g).trans (ah.below e)
  exact mp 12 rfl (.bool false) (.inl zk) zg (hq := (zA zE)) (yW zk (zD (yA (wR (zH (znt false (nQ (zT (wR (zI (zI (nQ (zW (zK (yF [(I3 0), (U8 0)] ⟨xO (e3 (by (rw [brk_n za]; done))) (eu (by (rw [brk_n za]; done))), d⟩)))))))))))))))
 skip
 refine yX 11 rfl ?_ rfl
 have b := zC b g
 refine zAW [(I3 ((lookB rs (askB r)).1)), (I3 ((lookB rs (askB r)).2.1)), (U8 ((lookB rs (askB r)).2.2))] b ?_
 intro av t
 have b := t.here
 refine zS ?_
 refine ⟨rfl, .inl zk, yI 9 zk (yX 9 rfl ?_ rfl)⟩
 refine zr (.bool ((gget rs (askB r)).isSome)) (yK ((gget rs (askB r)).isSome) ?_ ?_)
 ·intro a9
  refine zS ?_
  refine ⟨rfl, .inl zk, mp 12 rfl (.bool true) (.inl zk) zg (hq := (zA zE)) (yW zk (zD (yA (wR (zH (znt true (nQ (zF (zP (zD (yA (xJ zk zk (Lq_run (pt o 1) zf (yQ o 1 (I3 ((lookB rs (askB r)).2.1)) zk zf (yO b rfl) (Lq_run (pt o 2) zf (yQ o 2 (U8 ((lookB rs (askB r)).2.2)) zk zf (yO b rfl) (Lq_as (Lq_as (yS ?_)))))))))))))))))))⟩
  intro bd af
  have d := (((d.tr h.below).tr g).trans (t.below e)).tr af
  exact zD (zW (yF [(I3 ((lookB rs (askB r)).2.1)), (U8 ((lookB rs (askB r)).2.2))] ⟨xO (e3 (by (rw [brk_y za]; done))) (eu (by (rw [brk_y za]; done))), d⟩))
 intro aq
 refine zS ?_
 refine ⟨rfl, .inl zk, ?_⟩
 have d := ((d.tr h.below).tr g).trans (t.below e)
 exact mp 12 rfl (.bool false) (.inl zk) zg (hq := (zA zE)) (yW zk (zD (yA (wR (zH (znt false (nQ (zT (wR (zI (zI (nQ (zW (zK (yF [(I3 0), (U8 0)] ⟨xO (e3 (by (rw [brk_n za]; done))) (eu (by (rw [brk_n za]; done))), d⟩)))))))))))))))
theorem c_Twin (e : Nat) (m_rs : Nat) (rs : List (Int × (Int × Int × Int))) (b : Value) (ts : List (Int × Int)) (r : Int) (w : World) (d : w.heap[e]? = some (.cells [(.map (some m_rs)), b].toArray 69 (0, 0))) (i : GmAt .i32 vBrk w (.map (some m_rs)) rs) (a : GmAt .i32 vI32 w b ts) :
  Calls Tryz.prog 25 #[(pt e 0), (I3 r)] w (Ret fun v w' => v = (I3 (twnF ts r)) ∧ Below w.heap.size w w') := by
 refine wG 25 func25 rfl ?_
 have h := Below.refl w.heap.size w
 refine wR (zI (nW (wR (zH (zc (c_there e m_rs rs b ts _ d i a) ?_)))))
 rintro _ n ⟨rfl, c⟩
 refine znt true (nQ (zF (zP (zD (wR (zH (zc (c_asked r _ ) ?_)))))))
 rintro _ l ⟨rfl, g⟩
 have d := zC (zC d c) g
 have a := (a.below c).below g
 refine zI (nW (wR (zH (zr (pt e 0) (zFO 1 d rfl (zH (L_glook (k := .i32) (f := vI32) 0 (askB r) ts underlying67 underlying21 zk a zk zk (zH (zr (I3 ((gget ts (askB r)).getD 0)) (zr (.bool ((gget ts (askB r)).isSome)) (yK ((gget ts (askB r)).isSome) ?_ ?_)))))))))))
 ·intro m
  have h := (h.tr c).tr g
  exact zI (zI (nR (zH (nQ (zT (wR (zH (zI (nQ (zW (zK (yF [(I3 ((gget ts (askB r)).getD 0))] ⟨e3 (by (rw [twn_y za]; done)), h⟩))))))))))))
 intro j
 have h := (h.tr c).tr g
 exact zI (zI (nR (zH (nQ (zF (zP (zD (wR (zH (zI (nQ (zW (yF [(I3 (askB r))] ⟨e3 (by (rw [twn_n za]; done)), h⟩)))))))))))))
theorem c_Matches (g : Nat) (m_rs : Nat) (rs : List (Int × (Int × Int × Int))) (e : Value) (ts : List (Int × Int)) (o : Int) (c : Int) (w : World) (d : w.heap[g]? = some (.cells [(.map (some m_rs)), e].toArray 69 (0, 0))) (b : GmAt .i32 vBrk w (.map (some m_rs)) rs) (a : GmAt .i32 vI32 w e ts) :
  Calls Tryz.prog 26 #[(pt g 0), (I3 o), (I3 c)] w (Ret fun v w' => v = (.bool (mtcF rs ts o c)) ∧ Below w.heap.size w w') := by
 refine wG 41 func26 rfl ?_
 have j := Below.refl w.heap.size w
 refine wR (zI (nR (zH (zr (.func (.func 23) #[(pt g 0)] #[]) (zI (nR (zH (zH (zc (c_Bracket g m_rs rs e ts o _ d b a) ?_)))))))))
 rintro _ s ⟨rfl, i⟩
 have d := zC d i
 have b := b.below i
 have a := a.below i
 refine zH (zr (I3 ((brkF rs o).1)) (zr (U8 ((brkF rs o).2)) (zI (zI (nR (zH (zH (zc (c_Bracket g m_rs rs e ts c _ d b a) ?_))))))))
 rintro _ r ⟨rfl, h⟩
 refine zH (zr (I3 ((brkF rs c).1)) (zr (U8 ((brkF rs c).2)) (zI (zI (nR (zH (zEq .u8 ((brkF rs o).2) 1 ?_ ?_)))))))
 ·intro y
  refine zH (zw (zH (zw (zEq .u8 ((brkF rs c).2) 2 ?_ ?_))))
  ·intro u
   have d := zC d h
   have b := b.below h
   have a := a.below h
   refine wB (zH (zw (zH (zw (zH (zw (zc (c_Twin g m_rs rs e ts ((brkF rs o).1) _ d b a) ?_)))))))
   rintro _ t ⟨rfl, f⟩
   have d := zC d f
   have b := b.below f
   have a := a.below f
   refine zw (zH (zw (zH (zw (zc (c_Twin g m_rs rs e ts c _ d b a) ?_)))))
   rintro _ n ⟨rfl, k⟩
   refine zw (zEq .i32 (twnF ts ((brkF rs o).1)) (twnF ts c) ?_ ?_)
   ·intro m
    have j := (((j.tr i).tr h).tr f).tr k
    exact wB (zI (nQ (zW (yF [(.bool true)] ⟨eb (by (rw [mtc_3 za za]; first | exact (decide_eq_true za).symm | exact (decide_eq_false za).symm)), j⟩))))
   intro p
   have j := (((j.tr i).tr h).tr f).tr k
   exact wB (zI (nQ (zW (yF [(.bool false)] ⟨eb (by (rw [mtc_3 za za]; first | exact (decide_eq_true za).symm | exact (decide_eq_false za).symm)), j⟩))))
  intro q
  have j := (j.tr i).tr h
  exact wB (zH (zs (zs (zs (zs (zs (zs (zs (wM (zI (nQ (zW (yF [(.bool false)] ⟨eb (by exact (mtc_2 za).symm), j⟩)))))))))))))
 intro l
 have j := (j.tr i).tr h
 exact zH (zs (zs (wM (zH (zs (zs (zs (zs (zs (zs (zs (wM (zI (nQ (zW (yF [(.bool false)] ⟨eb (by exact (mtc_1 za).symm), j⟩))))))))))))))))
end Go.Proofs.YtddnhlobnembaaaGreatDoor
end

/- === Wcb2 === -/
section
/- Walks, written by my program walk.py out of the specification cb2.py: each theorem says what one function returns and that it leaves memory as it was. -/
namespace Go.Proofs.YtddnhlobnembaaaGreatDoor
open Go Go.RowKit Go.FK _root_.Go.Proofs.Tryz
set_option maxHeartbeats 4000000
set_option maxRecDepth 100000
theorem c_add (i m_rs : Nat) (rs : List (Int × (Int × Int × Int))) (ag : Value) (xa : Int) (xo : Int) (xs : Int) (B_ : Nat) (w : World) (hs0 : B_ ≤ w.heap.size) (c : w.heap[i]? = some (.cells [(.map (some m_rs)), ag].toArray 69 (0, 0))) (a : w.heap[m_rs]? = some (gmObj .i32 vBrk rs)) (aw : B_ ≤ m_rs) :
  Calls Tryz.prog 28 #[(pt i 0), (Value.agg #[(I3 xa), (I3 xo), (U8 xs)])] w (Ret fun v w' => v = (I6 (addE rs (xa, xo, xs))) ∧ w'.heap[m_rs]? = some (gmObj .i32 vBrk (addM rs (xa, xo, xs))) ∧ Ch (fun k => k = m_rs) w w') := by
 refine wG 31 func28 rfl ?_
 have t := Below.refl B_ w
 have g : B_ ≤ (World.heap w).size := hs0
 have o := Ch.refl (fun k => k = m_rs) w
 have ah : (World.heap w).size ≤ m_rs ∨ (fun k => k = m_rs) m_rs := .inr rfl
 refine wR (zN [(I3 xa), (I3 xo), (U8 xs)] 26 ?_)
 intro b1 w2 ad
 have ax : B_ ≤ b1 := by rw [ad.num]; exact g
 have av : (World.heap w).size ≤ b1 ∨ (fun k => k = m_rs) b1 := .inl (by rw [ad.num]; exact o.size)
 have t := t.trans (ad.below.mono g)
 replace g := Nat.le_trans g (ad.below.size)
 have b := ad.here
 refine zI (nW (wR (zOW b (zc (c_may xa xo xs _ ) ?_))))
 replace o := o.trans2 (Ch.of_below ad.below) (fun _ h => h.elim)
 rintro _ w4 ⟨rfl, u⟩
 have t := t.trans (u.mono g)
 replace g := Nat.le_trans g (u.size)
 refine zI (nR (zH (zNe .i64 (mayE (xa, xo, xs)) 0 ?_ ?_)))
 ·intro h7
  refine nQ (zT (wR (zH (zI (nQ (zW (zK (yF [(I6 (mayE (xa, xo, xs)))] ?_))))))))
  have e0 : ((mayE (xa, xo, xs)) : Int) = (addE rs (xa, xo, xs)) := by exact (addE_1 za).symm
  have em : rs = (addM rs (xa, xo, xs)) := by exact (addM_1 za).symm
  have a := zC (zC a ad.below) u
  rw [em] at a
  replace o := o.trans2 (Ch.of_below u) (fun _ h => h.elim)
  exact ⟨e6 e0, a, o⟩
 intro h8
 refine nQ (zF (zP (zD (yA (yA (xE 11 13 zk zk zk ?_))))))
 intro w9 s
 have t := t.trans (s.mono g)
 replace g := Nat.le_trans g (s.size)
 refine ⟨fun w => (w.heap[i]? = some (.cells [(.map (some m_rs)), ag].toArray 69 (0, 0))) ∧ (w.heap[b1]? = some (.cells [(I3 xa), (I3 xo), (U8 xs)].toArray 26 (0, 0))) ∧ (w.heap[m_rs]? = some (gmObj .i32 vBrk rs)), ?_⟩
 have c := zC (zC (zC c ad.below) u) s
 have a := zC (zC (zC a ad.below) u) s
 have b := zC (zC b u) s
 refine mp 0 rfl (pt i 0) (.inr ⟨c, b, a⟩) zg (hq := (zA (zA zE))) (mp 1 rfl (pt i 0) (.inr ⟨c, b, a⟩) zg (hq := (zA (zA zE))) (mp 2 rfl (pt i 0) (.inr ⟨c, b, a⟩) zg (hq := (zA (zA zE))) (mt 3 [3, 6, 7, 8, 9, 11, 12] rfl (.map (some m_rs)) ⟨c, b, a⟩ (yM i 0 (.map (some m_rs)) zk zf (fun w2 h2 => yO h2.1 rfl)) (hq := (zA (zA zE))) (mp 4 rfl (pt b1 0) (.inr ⟨c, b, a⟩) zg (hq := (zA (zA zE))) (mt 5 [5, 6, 7, 8, 9, 11, 12] rfl (I3 xa) ⟨c, b, a⟩ (yM b1 0 (I3 xa) zk zf (fun w2 h2 => yO h2.2.1 rfl)) (hq := (zA (zA zE))) (mt 6 [6, 7, 8, 9, 11, 12] rfl (.tuple #[(Value.agg #[(I3 ((lookB rs xa).1)), (I3 ((lookB rs xa).2.1)), (U8 ((lookB rs xa).2.2))]), (.bool ((gget rs xa).isSome))]) ⟨c, b, a⟩ (R_glook (k := .i32) (f := vBrk) (0, 0, 0) xa rs underlying66 underlying21 zk zk zk (fun w2 h2 => GmAt.of h2.2.2)) (hq := (zA (zA zE))) (mp 7 rfl (.tuple #[(Value.agg #[(I3 ((lookB rs xa).1)), (I3 ((lookB rs xa).2.1)), (U8 ((lookB rs xa).2.2))]), (.bool ((gget rs xa).isSome))]) (.inr ⟨c, b, a⟩) zg (hq := (zA (zA zE))) (mp 8 rfl (Value.agg #[(I3 ((lookB rs xa).1)), (I3 ((lookB rs xa).2.1)), (U8 ((lookB rs xa).2.2))]) (.inr ⟨c, b, a⟩) zg (hq := (zA (zA zE))) ?_))))))))
 refine M_all2 9 10 zk ?_ ?_
 ·skip
  refine yX 9 rfl ?_ rfl
  refine zr (.bool ((gget rs xa).isSome)) (yK ((gget rs xa).isSome) ?_ ?_)
  ·intro be
   refine zS ?_
   refine ⟨rfl, .inr ⟨c, b, a⟩, yI 10 zk (yX 10 rfl ?_ rfl)⟩
   refine zN [(I3 0), (I3 0), (U8 0)] 26 ?_
   intro au ba q
   have d := yZ (yC a) q
   have af : B_ ≤ au := by rw [q.num]; exact g
   replace o := (o.trans2 (Ch.of_below u) (fun _ h => h.elim)).trans2 (Ch.of_below s) (fun _ h => h.elim)
   have m : (World.heap w).size ≤ au ∨ (fun k => k = m_rs) au := .inl (by rw [q.num]; exact o.size)
   have t := t.trans (q.below.mono g)
   replace g := Nat.le_trans g (q.below.size)
   have p := q.here
   refine zS ?_
   have c := zC c q.below
   have a := zC a q.below
   have b := zC b q.below
   refine ⟨rfl, .inr ⟨c, b, a⟩, yI 11 zk (yX 11 rfl ?_ rfl)⟩
   refine zAW [(I3 ((lookB rs xa).1)), (I3 ((lookB rs xa).2.1)), (U8 ((lookB rs xa).2.2))] p ?_
   intro a3 ao
   replace g := Nat.le_trans g (Nat.le_of_eq ao.size.symm)
   refine zS ?_
   refine ⟨rfl, .inl zk, mp 12 rfl (.bool true) (.inl zk) zg (hq := (zA (zA zE))) (yW zk (zD (wR (zH (nQ (zT (wR (zI (nQ (zW (zK (yF [(I6 81)] ?_))))))))))))⟩
   have e0 : (81 : Int) = (addE rs (xa, xo, xs)) := by exact (addE_2 za za).symm
   have em : rs = (addM rs (xa, xo, xs)) := by exact (addM_2 za za).symm
   have a := zG a ao d
   rw [em] at a
   replace o := (o.trans2 (Ch.of_below q.below) (fun _ h => h.elim)).trans2 (Ch.of_wrote ao) (fun k e => e ▸ m)
   exact ⟨e6 e0, a, o⟩
  intro bh
  refine zS ?_
  refine ⟨rfl, .inr ⟨c, b, a⟩, yI 10 zk (yX 10 rfl ?_ rfl)⟩
  refine zN [(I3 0), (I3 0), (U8 0)] 26 ?_
  intro ar a6 l
  have d := yZ (yC a) l
  have n := yZ (yC b) l
  have af : B_ ≤ ar := by rw [l.num]; exact g
  replace o := (o.trans2 (Ch.of_below u) (fun _ h => h.elim)).trans2 (Ch.of_below s) (fun _ h => h.elim)
  have m : (World.heap w).size ≤ ar ∨ (fun k => k = m_rs) ar := .inl (by rw [l.num]; exact o.size)
  have t := t.trans (l.below.mono g)
  replace g := Nat.le_trans g (l.below.size)
  have p := l.here
  refine zS ?_
  have c := zC c l.below
  have a := zC a l.below
  have b := zC b l.below
  refine ⟨rfl, .inr ⟨c, b, a⟩, yI 11 zk (yX 11 rfl ?_ rfl)⟩
  refine zAW [(I3 ((lookB rs xa).1)), (I3 ((lookB rs xa).2.1)), (U8 ((lookB rs xa).2.2))] p ?_
  intro a2 ab
  replace g := Nat.le_trans g (Nat.le_of_eq ab.size.symm)
  have c := zG c ab (zQ c p zi)
  refine zS ?_
  refine ⟨rfl, .inl zk, mp 12 rfl (.bool false) (.inl zk) zg (hq := (zA (zA zE))) (yW zk (zD (wR (zH (nQ (zF (zP (zD (yA (xE 7 8 zk zk zk ?_))))))))))⟩
  intro a9 z
  have t := t.trans (ab.below af)
  have t := t.trans (z.mono g)
  replace g := Nat.le_trans g (z.size)
  refine ⟨fun w => (w.heap[i]? = some (.cells [(.map (some m_rs)), ag].toArray 69 (0, 0))) ∧ (w.heap[b1]? = some (.cells [(I3 xa), (I3 xo), (U8 xs)].toArray 26 (0, 0))), ?_⟩
  have c := zC c z
  have b := zC (zG b ab n) z
  refine mp 0 rfl (pt i 0) (.inr ⟨c, b⟩) zg (hq := (zA zE)) (mp 1 rfl (pt i 0) (.inr ⟨c, b⟩) zg (hq := (zA zE)) (mp 2 rfl (pt i 0) (.inr ⟨c, b⟩) zg (hq := (zA zE)) (mt 3 [3, 7] rfl (.map (some m_rs)) ⟨c, b⟩ (yM i 0 (.map (some m_rs)) zk zf (fun w2 h2 => yO h2.1 rfl)) (hq := (zA zE)) (mp 4 rfl (pt b1 0) (.inr ⟨c, b⟩) zg (hq := (zA zE)) (mt 5 [5, 7] rfl (I3 xa) ⟨c, b⟩ (yM b1 0 (I3 xa) zk zf (fun w2 h2 => yO h2.2 rfl)) (hq := (zA zE)) (mt 6 [6, 7] rfl (Value.agg #[(I3 xa), (I3 xo), (U8 xs)]) ⟨c, b⟩ (R_loadA b1 0 [(I3 xa), (I3 xo), (U8 xs)] zk zf zf (fun w2 h2 => cells_at h2.2 0 zk)) (hq := (zA zE)) (yI 7 zk ?_)))))))
  refine yX 7 rfl ?_ rfl
  have a := zC (zG a ab d) z
  refine L_glay (k := .i32) (f := vBrk) m_rs xa (xa, xo, xs) rs underlying66 underlying21 a zk zk zk (by first | exact isn za | (omega)) ?_
  intro bg an
  replace g := Nat.le_trans g (Nat.le_of_eq an.size.symm)
  have a := an.here
  refine zS ?_
  refine ⟨rfl, .inl zk, yW zk (zD (wR (zI (nQ (zW (yF [(I6 0)] ?_))))))⟩
  have e0 : (0 : Int) = (addE rs (xa, xo, xs)) := by exact (addE_0 za za).symm
  have em : (rs ++ [(xa, (xa, xo, xs))]) = (addM rs (xa, xo, xs)) := by exact (addM_0 za za).symm
  rw [em] at a
  replace o := (((o.trans2 (Ch.of_below l.below) (fun _ h => h.elim)).trans2 (Ch.of_wrote ab) (fun k e => e ▸ m)).trans2 (Ch.of_below z) (fun _ h => h.elim)).trans2 (Ch.of_wrote an) (fun k e => e ▸ ah)
  exact ⟨e6 e0, a, o⟩
 skip
 refine yX 10 rfl ?_ rfl
 refine zN [(I3 0), (I3 0), (U8 0)] 26 ?_
 intro aq bb j
 have d := yZ (yC a) j
 have n := yZ (yC b) j
 have af : B_ ≤ aq := by rw [j.num]; exact g
 replace o := (o.trans2 (Ch.of_below u) (fun _ h => h.elim)).trans2 (Ch.of_below s) (fun _ h => h.elim)
 have m : (World.heap w).size ≤ aq ∨ (fun k => k = m_rs) aq := .inl (by rw [j.num]; exact o.size)
 have t := t.trans (j.below.mono g)
 replace g := Nat.le_trans g (j.below.size)
 have p := j.here
 refine zS ?_
 have c := zC c j.below
 have a := zC a j.below
 have b := zC b j.below
 refine ⟨rfl, .inr ⟨c, b, a⟩, M_all2 9 11 zk ?_ ?_⟩
 ·skip
  refine yX 9 rfl ?_ rfl
  refine zr (.bool ((gget rs xa).isSome)) (yK ((gget rs xa).isSome) ?_ ?_)
  ·intro az
   refine zS ?_
   refine ⟨rfl, .inr ⟨c, b, a⟩, yI 11 zk (yX 11 rfl ?_ rfl)⟩
   refine zAW [(I3 ((lookB rs xa).1)), (I3 ((lookB rs xa).2.1)), (U8 ((lookB rs xa).2.2))] p ?_
   intro a7 ap
   replace g := Nat.le_trans g (Nat.le_of_eq ap.size.symm)
   refine zS ?_
   refine ⟨rfl, .inl zk, mp 12 rfl (.bool true) (.inl zk) zg (hq := (zA (zA zE))) (yW zk (zD (wR (zH (nQ (zT (wR (zI (nQ (zW (zK (yF [(I6 81)] ?_))))))))))))⟩
   have e0 : (81 : Int) = (addE rs (xa, xo, xs)) := by exact (addE_2 za za).symm
   have em : rs = (addM rs (xa, xo, xs)) := by exact (addM_2 za za).symm
   have a := zG a ap d
   rw [em] at a
   replace o := (o.trans2 (Ch.of_below j.below) (fun _ h => h.elim)).trans2 (Ch.of_wrote ap) (fun k e => e ▸ m)
   exact ⟨e6 e0, a, o⟩
  intro a5
  refine zS ?_
  refine ⟨rfl, .inr ⟨c, b, a⟩, yI 11 zk (yX 11 rfl ?_ rfl)⟩
  refine zAW [(I3 ((lookB rs xa).1)), (I3 ((lookB rs xa).2.1)), (U8 ((lookB rs xa).2.2))] p ?_
  intro a8 aa
  replace g := Nat.le_trans g (Nat.le_of_eq aa.size.symm)
  have c := zG c aa (zQ c p zi)
  refine zS ?_
  refine ⟨rfl, .inl zk, mp 12 rfl (.bool false) (.inl zk) zg (hq := (zA (zA zE))) (yW zk (zD (wR (zH (nQ (zF (zP (zD (yA (xE 7 8 zk zk zk ?_))))))))))⟩
  intro bd y
  have t := t.trans (aa.below af)
  have t := t.trans (y.mono g)
  replace g := Nat.le_trans g (y.size)
  refine ⟨fun w => (w.heap[i]? = some (.cells [(.map (some m_rs)), ag].toArray 69 (0, 0))) ∧ (w.heap[b1]? = some (.cells [(I3 xa), (I3 xo), (U8 xs)].toArray 26 (0, 0))), ?_⟩
  have c := zC c y
  have b := zC (zG b aa n) y
  refine mp 0 rfl (pt i 0) (.inr ⟨c, b⟩) zg (hq := (zA zE)) (mp 1 rfl (pt i 0) (.inr ⟨c, b⟩) zg (hq := (zA zE)) (mp 2 rfl (pt i 0) (.inr ⟨c, b⟩) zg (hq := (zA zE)) (mt 3 [3, 7] rfl (.map (some m_rs)) ⟨c, b⟩ (yM i 0 (.map (some m_rs)) zk zf (fun w2 h2 => yO h2.1 rfl)) (hq := (zA zE)) (mp 4 rfl (pt b1 0) (.inr ⟨c, b⟩) zg (hq := (zA zE)) (mt 5 [5, 7] rfl (I3 xa) ⟨c, b⟩ (yM b1 0 (I3 xa) zk zf (fun w2 h2 => yO h2.2 rfl)) (hq := (zA zE)) (mt 6 [6, 7] rfl (Value.agg #[(I3 xa), (I3 xo), (U8 xs)]) ⟨c, b⟩ (R_loadA b1 0 [(I3 xa), (I3 xo), (U8 xs)] zk zf zf (fun w2 h2 => cells_at h2.2 0 zk)) (hq := (zA zE)) (yI 7 zk ?_)))))))
  refine yX 7 rfl ?_ rfl
  have a := zC (zG a aa d) y
  refine L_glay (k := .i32) (f := vBrk) m_rs xa (xa, xo, xs) rs underlying66 underlying21 a zk zk zk (by first | exact isn za | (omega)) ?_
  intro bf am
  replace g := Nat.le_trans g (Nat.le_of_eq am.size.symm)
  have a := am.here
  refine zS ?_
  refine ⟨rfl, .inl zk, yW zk (zD (wR (zI (nQ (zW (yF [(I6 0)] ?_))))))⟩
  have e0 : (0 : Int) = (addE rs (xa, xo, xs)) := by exact (addE_0 za za).symm
  have em : (rs ++ [(xa, (xa, xo, xs))]) = (addM rs (xa, xo, xs)) := by exact (addM_0 za za).symm
  rw [em] at a
  replace o := (((o.trans2 (Ch.of_below j.below) (fun _ h => h.elim)).trans2 (Ch.of_wrote aa) (fun k e => e ▸ m)).trans2 (Ch.of_below y) (fun _ h => h.elim)).trans2 (Ch.of_wrote am) (fun k e => e ▸ ah)
  exact ⟨e6 e0, a, o⟩
 skip
 refine yX 11 rfl ?_ rfl
 refine zAW [(I3 ((lookB rs xa).1)), (I3 ((lookB rs xa).2.1)), (U8 ((lookB rs xa).2.2))] p ?_
 intro a4 r
 replace g := Nat.le_trans g (Nat.le_of_eq r.size.symm)
 have c := zG c r (zQ c p zi)
 refine zS ?_
 refine ⟨rfl, .inl zk, yI 9 zk (yX 9 rfl ?_ rfl)⟩
 refine zr (.bool ((gget rs xa).isSome)) (yK ((gget rs xa).isSome) ?_ ?_)
 ·intro bc
  refine zS ?_
  refine ⟨rfl, .inl zk, mp 12 rfl (.bool true) (.inl zk) zg (hq := (zA (zA zE))) (yW zk (zD (wR (zH (nQ (zT (wR (zI (nQ (zW (zK (yF [(I6 81)] ?_))))))))))))⟩
  have e0 : (81 : Int) = (addE rs (xa, xo, xs)) := by exact (addE_2 za za).symm
  have em : rs = (addM rs (xa, xo, xs)) := by exact (addM_2 za za).symm
  have a := zG a r d
  rw [em] at a
  replace o := (o.trans2 (Ch.of_below j.below) (fun _ h => h.elim)).trans2 (Ch.of_wrote r) (fun k e => e ▸ m)
  exact ⟨e6 e0, a, o⟩
 intro ay
 refine zS ?_
 refine ⟨rfl, .inl zk, mp 12 rfl (.bool false) (.inl zk) zg (hq := (zA (zA zE))) (yW zk (zD (wR (zH (nQ (zF (zP (zD (yA (xE 7 8 zk zk zk ?_))))))))))⟩
 intro a0 ac
 have t := t.trans (r.below af)
 have t := t.trans (ac.mono g)
 replace g := Nat.le_trans g (ac.size)
 refine ⟨fun w => (w.heap[i]? = some (.cells [(.map (some m_rs)), ag].toArray 69 (0, 0))) ∧ (w.heap[b1]? = some (.cells [(I3 xa), (I3 xo), (U8 xs)].toArray 26 (0, 0))), ?_⟩
 have c := zC c ac
 have b := zC (zG b r n) ac
 refine mp 0 rfl (pt i 0) (.inr ⟨c, b⟩) zg (hq := (zA zE)) (mp 1 rfl (pt i 0) (.inr ⟨c, b⟩) zg (hq := (zA zE)) (mp 2 rfl (pt i 0) (.inr ⟨c, b⟩) zg (hq := (zA zE)) (mt 3 [3, 7] rfl (.map (some m_rs)) ⟨c, b⟩ (yM i 0 (.map (some m_rs)) zk zf (fun w2 h2 => yO h2.1 rfl)) (hq := (zA zE)) (mp 4 rfl (pt b1 0) (.inr ⟨c, b⟩) zg (hq := (zA zE)) (mt 5 [5, 7] rfl (I3 xa) ⟨c, b⟩ (yM b1 0 (I3 xa) zk zf (fun w2 h2 => yO h2.2 rfl)) (hq := (zA zE)) (mt 6 [6, 7] rfl (Value.agg #[(I3 xa), (I3 xo), (U8 xs)]) ⟨c, b⟩ (R_loadA b1 0 [(I3 xa), (I3 xo), (U8 xs)] zk zf zf (fun w2 h2 => cells_at h2.2 0 zk)) (hq := (zA zE)) (yI 7 zk ?_)))))))
 refine yX 7 rfl ?_ rfl
 have a := zC (zG a r d) ac
 refine L_glay (k := .i32) (f := vBrk) m_rs xa (xa, xo, xs) rs underlying66 underlying21 a zk zk zk (by first | exact isn za | (omega)) ?_
 intro a1 al
 replace g := Nat.le_trans g (Nat.le_of_eq al.size.symm)
 have a := al.here
 refine zS ?_
 refine ⟨rfl, .inl zk, yW zk (zD (wR (zI (nQ (zW (yF [(I6 0)] ?_))))))⟩
 have e0 : (0 : Int) = (addE rs (xa, xo, xs)) := by exact (addE_0 za za).symm
 have em : (rs ++ [(xa, (xa, xo, xs))]) = (addM rs (xa, xo, xs)) := by exact (addM_0 za za).symm
 rw [em] at a
 replace o := (((o.trans2 (Ch.of_below j.below) (fun _ h => h.elim)).trans2 (Ch.of_wrote r) (fun k e => e ▸ m)).trans2 (Ch.of_below ac) (fun _ h => h.elim)).trans2 (Ch.of_wrote al) (fun k e => e ▸ ah)
 exact ⟨e6 e0, a, o⟩
theorem c_idx (l : Value) (s : List (Int × Int × Int)) (h : Nat) (m_rs : Nat) (rs : List (Int × (Int × Int × Int))) (d : Value) (ts : List (Int × Int)) (w : World) (e : Rd w encBrk l s) (g : w.heap[h]? = some (.cells [(.map (some m_rs)), d].toArray 69 (0, 0))) (c : GmAt .i32 vBrk w (.map (some m_rs)) rs) (a : GmAt .i32 vI32 w d ts) (hl : s.length ≤ 9223372036854775807) :
  Calls Tryz.prog 29 #[l, (.func (.func 30) #[(pt h 0)] #[])] w (Ret fun v w' => v = (I6 (idxL rs s)) ∧ Below w.heap.size w w') := by
 refine wG 19 func29 rfl ?_
 have j := Below.refl w.heap.size w
 refine wR (zI (nW (wR (zH (zln underlying22 (e).len (zH (nQ (zY (xD (fun m s0 w0 => ∃ (i : Nat), (m = s.length - i) ∧ (s0.ds = []) ∧ ([0, 1, 7, 8].map s0.f = [l, (.func (.func 30) #[(pt h 0)] #[]), (N6 ((s).length)), (N6 i)]) ∧ (Rd w0 encBrk l s) ∧ (GmAt .i32 vBrk w0 (.map (some m_rs)) rs) ∧ (GmAt .i32 vI32 w0 d ts) ∧ (w0.heap[h]? = some (.cells [(.map (some m_rs)), d].toArray 69 (0, 0))) ∧ (Below w.heap.size w w0) ∧ (i ≤ s.length) ∧ (LonI rs s i)) _ ⟨0, rfl, zk, zk, e, c, a, g, j, (Nat.zero_le _), (LonI.zero _ _)⟩ ?_)))))))))
 rintro m1 s2 w3 ⟨i, hm, n, q, e, c, a, g, j, i1, o⟩
 refine yU q (wR (nLt i ((s).length) ?_ ?_))
 ·intro h4
  refine nW (zT (zP (zD (yA (zY (wR (zH (zI (nR (zH (zH (zH ?_))))))))))))
  have u := zU s i zo; obtain ⟨k, p⟩ := u
  refine zEA e el22 i p [(I3 k.1), (I3 k.2.1), (U8 k.2.2)] rfl fun _ => (zc (c_lone h m_rs rs d ts k.1 k.2.1 k.2.2 _ g c a) ?_)
  rintro _ y ⟨rfl, b⟩
  refine yK (loneM rs (k.1, k.2.1, k.2.2)) ?_ ?_
  ·intro z
   have j := j.tr b
   exact nQ (zT (wR (zH (zI (nQ (zW (zR (zK (zK (zR (zK (yF [(N6 i)] (hd := n) ⟨e6 (by exact (idxL_hit o za za).symm), j⟩))))))))))))
  intro r
  refine nQ (zF (zP (zJ (zD (zV (zad i 1 (zH (zS ?_))))))))
  have j := j.tr b
  have g := zC g b
  have c := c.below b
  have e := e.below b
  have a := a.below b
  exact zD ⟨_, zo, (i + 1), rfl, n, zk, e, c, a, g, j, zo, o.step za za⟩
 intro t
 exact nW (zF (yR (zL (zL (yD (zD (wR (zI (nQ (zW (yF [(I6 (-1))] (hd := n) ⟨e6 (by exact (idxL_end o zo).symm), j⟩)))))))))))
theorem c_New_ok (d : Value) (rows : List (Int × Int × Int)) (w : World) (c : Rd w encBrk d rows) (hl : rows.length ≤ 9223372036854775807) (hok : newB rows = none) :
  Calls Tryz.prog 10 #[d] w (Ret fun v w' => ∃ (cb0 mb0 : Nat), v = (.tuple #[(pt cb0 0), (I6 0), (I6 0)]) ∧ w'.heap[cb0]? = some (.cells [(.map (some mb0)), (.map none)].toArray 69 (0, 0)) ∧ w.heap.size ≤ cb0 ∧ w'.heap[mb0]? = some (gmObj .i32 vBrk (kv rows)) ∧ w.heap.size ≤ mb0 ∧ Below w.heap.size w w') := by
 refine wG 36 func10 rfl ?_
 have j := Below.refl w.heap.size w
 have h := c
 refine wR (zI (zI (zI (nR (L_gmk (T := 66) .i32 vBrk ?_)))))
 intro b1 w2 ad
 have q := ad.ge j.size
 have a := ad.here
 refine zr (Value.agg #[(.map (some b1)), (.map none)]) (zN [(.map (some b1)), (.map none)] 69 ?_)
 intro b4 w5 u
 have n := yZ (yC a) u
 have o := NE.symm n
 have j := j.tr ad.below
 have aa := u.ge j.size
 have b := u.here
 have j := j.tr u.below
 have c := h.below j
 refine zI (nW (wR (zH (zln underlying22 (c).len (zH (nQ (zY ?_)))))))
 have a := zC a u.below
 refine xD (fun m s0 w0 => ∃ (i : Nat), (m = rows.length - i) ∧ (s0.ds = []) ∧ ([0, 5, 13, 14, 15].map s0.f = [d, (pt b4 0), d, (N6 ((rows).length)), (N6 i)]) ∧ (Rd w0 encBrk d rows) ∧ (w0.heap[b1]? = some (gmObj .i32 vBrk (kv (rows.take i)))) ∧ (w0.heap[b4]? = some (.cells [(.map (some b1)), (.map none)].toArray 69 (0, 0))) ∧ (Below w.heap.size w w0) ∧ (i ≤ rows.length) ∧ (FstI rows i)) _ ⟨0, rfl, zk, zk, c, a, b, j, (Nat.zero_le _), (FstI.zero _)⟩ ?_
 rintro m7 s8 w9 ⟨i, hm, ah, ak, c, a, b, j, i1, i2⟩
 refine yU ak (wR (nLt i ((rows).length) ?_ ?_))
 ·intro av
  refine nW (zT (zP (zD (yA (zY (wR (zH ?_)))))))
  have hz := zU rows i zo; obtain ⟨g, t⟩ := hz
  refine zEA c el22 i t [(I3 g.1), (I3 g.2.1), (U8 g.2.2)] rfl fun _ => (zN [(I3 0), (I3 0), (U8 0)] 26 ?_)
  intro az am l
  have p := yZ (yC a) l
  have af := l.ge j.size
  have s := l.here
  refine zI (zAW [(I3 g.1), (I3 g.2.1), (U8 g.2.2)] s ?_)
  intro ax r
  have b := zC b l.below
  have b := zG b r (zQ b s zi)
  have s := r.here
  have j := (j.tr l.below).trans (r.below af)
  have a := zG (zC a l.below) r p
  refine nR (zH (zOW s (zc (c_add b4 b1 (kv (rows.take i)) (.map none) g.1 g.2.1 g.2.2 w.heap.size _ j.size b a q) ?_)))
  rintro _ an ⟨rfl, ae, z⟩
  have j := z.below j j.size (fun k e => e ▸ q)
  have a := ae
  refine zI (nR (zH (zNe .i64 (addE (kv (rows.take i)) (g.1, g.2.1, g.2.2)) 0 ?_ ?_)))
  ·intro al
   exfalso; (rw [i2.no za al] at hok; cases hok)
  intro ag
  refine nQ (zF (zP (zJ (zD (zV (zad i 1 (zH (zS ?_))))))))
  have eM : (addM (kv (rows.take i)) (g.1, g.2.1, g.2.2)) = kv (rows.take (i + 1)) := addM_take t ag
  rw [eM] at a
  have eF := i2.add t ag
  have b := zZ b z (fun e => o e)
  have c := h.below j
  exact zD ⟨_, zo, (i + 1), rfl, ah, zk, c, a, b, j, zo, eF⟩
 intro ap
 refine nW (zF (yR (zL (zL (yD (zD (yA (wR (zH (zH (zr (.func (.func 30) #[(pt b4 0)] #[]) (zc (c_idx d rows b4 b1 (kv (rows.take i)) (.map none) [] _ c b (GmAt.of a) (.inl ⟨rfl, rfl⟩) zo) ?_))))))))))))
 rintro _ ay ⟨rfl, y⟩
 refine zI (nR (zH (zGe .i64 (idxL (kv (rows.take i)) rows) 0 ?_ ?_)))
 ·intro aj
  exfalso; (rw [new_lone i2 zo aj] at hok; cases hok)
 intro aq
 refine nQ (zF (zP (zD (wR (zH (zI (zI (zI (nQ (zW (yF [(pt b4 0), (I6 0), (I6 0)] (hd := ah) ?_)))))))))))
 have e0 : (0 : Int) = 0 := by rfl
 have e1 : (0 : Int) = 0 := by rfl
 have em : (kv (rows.take i)) = (kv rows) := by exact kv_all zo
 have a := zC a y
 rw [em] at a
 have j := j.tr y
 have b := zC b y
 exact ⟨b4, b1, rfl, b, aa, a, q, j⟩
theorem c_New_bad (g : Value) (rows : List (Int × Int × Int)) (w : World) (c : Rd w encBrk g rows) (hl : rows.length ≤ 9223372036854775807) (hbad : newB rows ≠ none) :
  Calls Tryz.prog 10 #[g] w (Ret fun v w' => v = (.tuple #[(.pointer none), (N6 (newI rows)), (I6 (newE rows))]) ∧ Below w.heap.size w w') := by
 refine wG 36 func10 rfl ?_
 have j := Below.refl w.heap.size w
 have h := c
 refine wR (zI (zI (zI (nR (L_gmk (T := 66) .i32 vBrk ?_)))))
 intro b1 w2 z
 have u := z.ge j.size
 have a := z.here
 refine zr (Value.agg #[(.map (some b1)), (.map none)]) (zN [(.map (some b1)), (.map none)] 69 ?_)
 intro b4 w5 t
 have n := yZ (yC a) t
 have o := NE.symm n
 have j := j.tr z.below
 have aj := t.ge j.size
 have b := t.here
 have j := j.tr t.below
 have c := h.below j
 refine zI (nW (wR (zH (zln underlying22 (c).len (zH (nQ (zY ?_)))))))
 have a := zC a t.below
 refine xD (fun m s0 w0 => ∃ (i : Nat), (m = rows.length - i) ∧ (s0.ds = []) ∧ ([0, 5, 13, 14, 15].map s0.f = [g, (pt b4 0), g, (N6 ((rows).length)), (N6 i)]) ∧ (Rd w0 encBrk g rows) ∧ (w0.heap[b1]? = some (gmObj .i32 vBrk (kv (rows.take i)))) ∧ (w0.heap[b4]? = some (.cells [(.map (some b1)), (.map none)].toArray 69 (0, 0))) ∧ (Below w.heap.size w w0) ∧ (i ≤ rows.length) ∧ (FstI rows i)) _ ⟨0, rfl, zk, zk, c, a, b, j, (Nat.zero_le _), (FstI.zero _)⟩ ?_
 rintro m7 s8 w9 ⟨i, hm, aa, ak, c, a, b, j, i1, i2⟩
 refine yU ak (wR (nLt i ((rows).length) ?_ ?_))
 ·intro ar
  refine nW (zT (zP (zD (yA (zY (wR (zH ?_)))))))
  have hz := zU rows i zo; obtain ⟨d, s⟩ := hz
  refine zEA c el22 i s [(I3 d.1), (I3 d.2.1), (U8 d.2.2)] rfl fun _ => (zN [(I3 0), (I3 0), (U8 0)] 26 ?_)
  intro ay al l
  have p := yZ (yC a) l
  have ag := l.ge j.size
  have r := l.here
  refine zI (zAW [(I3 d.1), (I3 d.2.1), (U8 d.2.2)] r ?_)
  intro av q
  have b := zC b l.below
  have b := zG b q (zQ b r zi)
  have r := q.here
  have j := (j.tr l.below).trans (q.below ag)
  have a := zG (zC a l.below) q p
  refine nR (zH (zOW r (zc (c_add b4 b1 (kv (rows.take i)) (.map none) d.1 d.2.1 d.2.2 w.heap.size _ j.size b a u) ?_)))
  rintro _ am ⟨rfl, ae, y⟩
  have j := y.below j j.size (fun k e => e ▸ u)
  have a := ae
  refine zI (nR (zH (zNe .i64 (addE (kv (rows.take i)) (d.1, d.2.1, d.2.2)) 0 ?_ ?_)))
  ·intro aw
   exact nQ (zT (wR (zH (zH (zI (zI (zI (nQ (zW (zR (zK (zK (zR (zK (yF [(.pointer none), (N6 i), (I6 (addE (kv (rows.take i)) (d.1, d.2.1, d.2.2)))] (hd := aa) ⟨tup3 rfl (e6 (by (rw [(newI_of (i2.no za za)).1]; done))) (e6 (by exact (newI_of (i2.no za za)).2.symm)), j⟩)))))))))))))))
  intro ah
  refine nQ (zF (zP (zJ (zD (zV (zad i 1 (zH (zS ?_))))))))
  have eM : (addM (kv (rows.take i)) (d.1, d.2.1, d.2.2)) = kv (rows.take (i + 1)) := addM_take s ah
  rw [eM] at a
  have eF := i2.add s ah
  have b := zZ b y (fun e => o e)
  have c := h.below j
  exact zD ⟨_, zo, (i + 1), rfl, aa, zk, c, a, b, j, zo, eF⟩
 intro an
 refine nW (zF (yR (zL (zL (yD (zD (yA (wR (zH (zH (zr (.func (.func 30) #[(pt b4 0)] #[]) (zc (c_idx g rows b4 b1 (kv (rows.take i)) (.map none) [] _ c b (GmAt.of a) (.inl ⟨rfl, rfl⟩) zo) ?_))))))))))))
 rintro _ ax ⟨rfl, ad⟩
 refine zI (nR (zH (zGe .i64 (idxL (kv (rows.take i)) rows) 0 ?_ ?_)))
 ·intro ap
  have j := j.tr ad
  exact nQ (zT (wR (zH (zI (zI (zI (nQ (zW (zK (yF [(.pointer none), (I6 (idxL (kv (rows.take i)) rows)), (I6 82)] (hd := aa) ⟨tup3 rfl (e6 (by (rw [(newI_of (new_lone i2 zo za)).1]; omega))) (e6 (by exact (newI_of (new_lone i2 zo za)).2.symm)), j⟩))))))))))
 intro ai
 exfalso; exact hbad (new_ok i2 zo ai)
end Go.Proofs.YtddnhlobnembaaaGreatDoor
end

/- === Wcsw === -/
section
/- Walks, written by my program walk.py out of the specification csw.py: each theorem says what one function returns and that it leaves memory as it was. -/
namespace Go.Proofs.YtddnhlobnembaaaGreatDoor
open Go Go.RowKit Go.FK _root_.Go.Proofs.Tryz
set_option maxHeartbeats 4000000
set_option maxRecDepth 100000
theorem c_isnan (x : Int) (w : World) :
  Calls Tryz.prog 156 #[(I3 x)] w (Ret fun v w' => v = (.bool false) ∧ Below w.heap.size w w') := by
 refine wG 6 func156 rfl ?_
 have b := Below.refl w.heap.size w
 refine wR (zI (nR (zH (zH (zNe .i32 x x ?_ ?_)))))
 ·intro a
  exact (a rfl).elim
 intro c
 exact zI (nQ (zW (yF [(.bool false)] ⟨rfl, b⟩)))
theorem wJ (x : Int) (y : Int) (w : World) :
  Calls Tryz.prog 134 #[(I3 x), (I3 y)] w (Ret fun v w' => v = (.bool (decide (x < y))) ∧ Below w.heap.size w w') := by
 refine wG 17 func134 rfl ?_
 have a := Below.refl w.heap.size w
 refine wR (zI (nR (zH (zc (c_isnan x _ ) ?_))))
 rintro _ e ⟨rfl, b⟩
 refine zH (zs (zs (zs (wM (zH (zw (zH (zw (zH (zw (zLt .i32 x y ?_ ?_)))))))))))
 ·intro c
  have a := a.tr b
  exact wM (zI (nQ (zW (yF [(.bool true)] ⟨eb (by exact (decide_eq_true za).symm), a⟩))))
 intro d
 have a := a.tr b
 exact wM (zI (nQ (zW (yF [(.bool false)] ⟨eb (by exact (decide_eq_false zo).symm), a⟩))))
theorem c_insort (B_ : Nat) (d : Value) (s : List (Int)) (a : Nat) (b : Nat) (w : World) (hs0 : B_ ≤ w.heap.size) (c : Row w B_ 21 1 encI32 d s) (h1 : a ≤ b) (h2 : b ≤ s.length) (h3 : s.length ≤ 4611686018427387904) :
  Calls Tryz.prog 128 #[d, (N6 a), (N6 b)] w (Ret fun v w' => ∃ (ys : List (Int)), v = (.tuple #[]) ∧ Row w' B_ 21 1 encI32 d ys ∧ (Sw a b s ys) ∧ (Srt ys a b) ∧ Ch (fun k => Value.ownBlock d = some k) w w') := by
 refine wG 49 func128 rfl ?_
 have q := Below.refl B_ w
 have o : B_ ≤ (World.heap w).size := hs0
 have hc := Ch.refl (fun k => Value.ownBlock d = some k) w
 have ag : ∀ g, Value.ownBlock d = some g → (World.heap w).size ≤ g ∨ (fun k => Value.ownBlock d = some k) g := fun g h => .inr h
 refine wR (zH (zad a 1 (zI (nQ (zY (xD (fun m s0 w0 => ∃ (i : Nat) (ys : List Int), (m = b - i) ∧ (s0.ds = []) ∧ ([0, 1, 2, 6].map s0.f = [d, (N6 a), (N6 b), (N6 i)]) ∧ (Row w0 B_ 21 1 encI32 d ys) ∧ (Below B_ w w0) ∧ (Ch (fun k => Value.ownBlock d = some k) w w0) ∧ (B_ ≤ w0.heap.size) ∧ (a + 1 ≤ i ∧ (i ≤ b ∨ b ≤ a)) ∧ (ys.length = s.length) ∧ (Sw a b s ys) ∧ (Srt ys a i)) _ ⟨(a + 1), s, rfl, zk, zk, c, q, hc, o, zo, rfl, .refl, (srt_nil zo)⟩ ?_))))))
 rintro m1 s2 w3 ⟨i, ys, hm, ah, aw, c, q, hc, o, i1, i3, i4, i5⟩
 refine yU aw (yA (wR (zH (zH (nLt i b ?_ ?_)))))
 ·intro h4
  refine nQ (zT (zP (zD (yA (zY (wR (zH (zI (nQ (zY (xD (fun m s0 w0 => ∃ (j : Nat) (zs : List Int), (m = j) ∧ (s0.ds = []) ∧ ([0, 1, 2, 6, 7].map s0.f = [d, (N6 a), (N6 b), (N6 i), (N6 j)]) ∧ (Row w0 B_ 21 1 encI32 d zs) ∧ (Below B_ w w0) ∧ (Ch (fun k => Value.ownBlock d = some k) w w0) ∧ (B_ ≤ w0.heap.size) ∧ (a ≤ j ∧ j ≤ i) ∧ (zs.length = s.length) ∧ (Sw a b s zs) ∧ (Ins zs a i j)) _ ⟨i, ys, rfl, ah, zk, c, q, hc, o, zo, i3, i4, (Ins.start i5)⟩ ?_)))))))))))
  rintro m5 s6 w7 ⟨j, zs, hm, ah, aw, c, q, hc, o, j1, j3, j4, j5⟩
  refine yU aw (yA (yA (xJ zk zk (yE (yE (Lq_cmp .i64 ((j : Nat) : Int) ((a : Nat) : Int) (a < j) rfl (cmpN_gt j a) zk zk ?_ ?_))))))
  ·intro h8
   replace h8 : a < j := by omega
   refine yE (qw (yE (qw (yE (qw ?_)))))
   have r := zU zs j zo; obtain ⟨x9, l⟩ := r
   have r := (c.rd).at (k := 1) zj l
   obtain ⟨a4, an, a3, a1⟩ := r
   refine yJ (k := .i64) d j _ a4 an yN a3 zo zk zk (qw (yQ a4 (an + j * 1) (I3 x9) zk zf (a1 0 _ rfl) (qw (yE (qw (yE (qw (Lq_subN j 1 zo zo zk zk (qw ?_)))))))))
   have r := zU zs (j - 1) zo; obtain ⟨n, p⟩ := r
   have r := (c.rd).at (k := 1) zj p
   obtain ⟨a5, am, a6, a0⟩ := r
   refine yJ (k := .i64) d (j - 1) _ a5 am yN a6 zo zk zk (qw (yQ a5 (am + (j - 1) * 1) (I3 n) zk zf (a0 0 _ rfl) (qw (xS 134 [(I3 x9), (I3 n)] (.bool (decide (x9 < n))) zg (fun wq hbq => wJ x9 n wq ) (yY (decide (x9 < n)) ?_ ?_)))))
   ·intro bf
    have a9 := el_lt l p bf
    refine qT (yS ?_)
    intro br ae
    replace q := q.trans (ae.mono o)
    replace o := Nat.le_trans o (ae.size)
    refine zD (zT (zP (zD (yA (zY (xE 15 18 zk zk zk ?_))))))
    intro bx af
    replace q := q.trans (af.mono o)
    replace o := Nat.le_trans o (af.size)
    refine ⟨fun w => (Rd w encI32 d zs), ?_⟩
    replace c := (c.below ae).below af
    refine mp 0 rfl d (.inr c.rd) zg (hq := (zB (zA (zA (zB (zB (zA (zA (zB zE))))))))) (mp 1 rfl (N6 j) (.inr c.rd) zg (hq := (zB (zA (zA (zB (zB (zA (zA (zB zE))))))))) (mp 2 rfl d (.inr c.rd) zg (hq := (zB (zA (zA (zB (zB (zA (zA (zB zE))))))))) (mp 3 rfl (N6 j) (.inr c.rd) zg (hq := (zB (zA (zA (zB (zB (zA (zA (zB zE))))))))) (mp 4 rfl (N6 (j - 1)) (.inr c.rd) (fun w2 _ => RI_subN j 1 zo zo zk zk w2) (hq := (zB (zA (zA (zB (zB (zA (zA (zB zE))))))))) (mp 5 rfl d (.inr c.rd) zg (hq := (zB (zA (zA (zB (zB (zA (zA (zB zE))))))))) (mp 6 rfl (N6 j) (.inr c.rd) zg (hq := (zB (zA (zA (zB (zB (zA (zA (zB zE))))))))) (mp 7 rfl (N6 (j - 1)) (.inr c.rd) (fun w2 _ => RI_subN j 1 zo zo zk zk w2) (hq := (zB (zA (zA (zB (zB (zA (zA (zB zE))))))))) ?_)))))))
    have r := (c.rd).at (k := 1) zj p; obtain ⟨au, y, ap, bj⟩ := r
    refine mp 8 rfl (pt au (y + (j - 1) * 1)) (.inr c.rd) (zX (k := .i64) d (j - 1) _ au y yN ap zo zk zk) (hq := (zB (zA (zA (zB (zB (zA (zA (zB zE))))))))) (mt 9 [9, 14, 15, 16, 17] rfl (I3 n) c.rd (yM au (y + (j - 1) * 1) (I3 n) zk zf (fun w2 h2 => Rd.later (k := 1) h2 zj ap p 0 _ rfl)) (hq := (zB (zA (zA (zB (zB (zA (zA (zB zE))))))))) (mp 10 rfl d (.inr c.rd) zg (hq := (zB (zA (zA (zB (zB (zA (zA (zB zE))))))))) (mp 11 rfl (N6 j) (.inr c.rd) zg (hq := (zB (zA (zA (zB (zB (zA (zA (zB zE))))))))) ?_)))
    have r := (c.rd).at (k := 1) zj l; obtain ⟨ay, z, ar, bm⟩ := r
    refine mp 12 rfl (pt ay (z + j * 1)) (.inr c.rd) (zX (k := .i64) d j _ ay z yN ar zo zk zk) (hq := (zB (zA (zA (zB (zB (zA (zA (zB zE))))))))) (mt 13 [13, 14, 15, 16, 17] rfl (I3 x9) c.rd (yM ay (z + j * 1) (I3 x9) zk zf (fun w2 h2 => Rd.later (k := 1) h2 zj ar l 0 _ rfl)) (hq := (zB (zA (zA (zB (zB (zA (zA (zB zE))))))))) ?_)
    have r := (c.rd).at (k := 1) zj l; obtain ⟨ax, u, ao, bh⟩ := r
    refine mp 14 rfl (pt ax (u + j * 1)) (.inr c.rd) (zX (k := .i64) d j _ ax u yN ao zo zk zk) (hq := (zB (zA (zA (zB (zB (zA (zA (zB zE))))))))) (yI 15 zk (yX 15 rfl ?_ rfl))
    refine yG j 0 ax u x9 n (I3 n) c zj l ao zk zk rfl zk zk rfl ?_
    intro bt az ak
    replace q := q.tg o ak c
    replace o := Nat.le_trans o (ak.size)
    replace c := az
    have bi : (List.set zs j n)[j]? = some n := yL l
    refine zS ?_
    refine ⟨rfl, .inl zk, ?_⟩
    have r := zU (List.set zs j n) (j - 1) (by (simp only [yH, List.length_set] at *; omega)); obtain ⟨a8, aj⟩ := r
    have r := (c.rd).at (k := 1) zj aj; obtain ⟨av, t, aq, bl⟩ := r
    refine mp 16 rfl (pt av (t + (j - 1) * 1)) (.inl zk) (zX (k := .i64) d (j - 1) _ av t yN aq (by (simp only [yH, List.length_set] at *; omega)) zk zk) (hq := (zB (zA (zA (zB (zB (zA (zA (zB zE))))))))) (yI 17 zk (yX 17 rfl ?_ rfl))
    refine yG (j - 1) 0 av t a8 x9 (I3 x9) c zj aj aq zk zk rfl zk zk rfl ?_
    intro bp a2 al
    replace q := q.tg o al c
    replace o := Nat.le_trans o (al.size)
    replace c := a2
    have bo : (List.set (List.set zs j n) (j - 1) x9)[(j - 1)]? = some x9 := yL aj
    have eS := xG l p
    replace c := c.cast eS; clear eS
    refine zS ?_
    refine ⟨rfl, .inl zk, yW zk (zJ (zD (zV (zH (zsb j 1 (zI (zS ?_)))))))⟩
    replace hc := (((hc.trans2 (Ch.of_below ae) (fun _ h => h.elim)).trans2 (Ch.of_below af) (fun _ h => h.elim)).trans2 (Ch.of_grown ak) (fun k e => ag k e)).trans2 (Ch.of_grown al) (fun k e => ag k e)
    refine zD ⟨_, zo, (j - 1), (swp zs j (j - 1)), rfl, ah, zk, c, q, hc, o, zo, ?_, ?_, ?_⟩
    ·rw [yH]; exact j3
    ·exact .swap j (j - 1) j4 zo zo zo
    exact j5.step zo zo zo (el_lt za za za)
   intro be
   have bd := el_le l p be
   refine qT (yS ?_)
   intro bw aa
   replace q := q.trans (aa.mono o)
   replace o := Nat.le_trans o (aa.size)
   refine zD (zF (yR (zL (zL (yD (zJ (zD (zV (zH (zad i 1 (zI (zS ?_))))))))))))
   replace hc := hc.trans2 (Ch.of_below aa) (fun _ h => h.elim)
   replace c := c.below aa
   refine zD ⟨_, zo, (i + 1), zs, rfl, ah, zk, c, q, hc, o, zo, ?_, ?_, ?_⟩
   ·exact j3
   ·exact j4
   exact j5.done zo (.inr (el_le za za za))
  intro a7
  replace a7 : j ≤ a := by omega
  refine yE (qs (qs (qs (qs (qs (qs (qs (qs (qs (qs (qF (yS ?_))))))))))))
  intro bq ac
  replace q := q.trans (ac.mono o)
  replace o := Nat.le_trans o (ac.size)
  refine zD (zF (yR (zL (zL (yD (zJ (zD (zV (zH (zad i 1 (zI (zS ?_))))))))))))
  replace hc := hc.trans2 (Ch.of_below ac) (fun _ h => h.elim)
  replace c := c.below ac
  refine zD ⟨_, zo, (i + 1), zs, rfl, ah, zk, c, q, hc, o, zo, ?_, ?_, ?_⟩
  ·exact j3
  ·exact j4
  exact j5.done zo (.inl zo)
 intro bv
 refine nQ (zF (yR (zL (zL (yD (znrm [] (hd := ah) ?_))))))
 exact ⟨ys, rfl, c, (by exact i4), (by exact i5.le zo), hc⟩
theorem c_sift (B_ : Nat) (b : Value) (s : List (Int)) (lo : Nat) (hi : Nat) (ff : Nat) (w : World) (hs0 : B_ ≤ w.heap.size) (a : Row w B_ 21 1 encI32 b s) (h2 : ff + hi ≤ s.length) (h3 : s.length ≤ 2305843009213693952) (h4 : lo ≤ 2305843009213693952) (h5 : HP s ff (lo + 1) hi) :
  Calls Tryz.prog 151 #[b, (N6 lo), (N6 hi), (N6 ff)] w (Ret fun v w' => ∃ (ys : List (Int)), v = (.tuple #[]) ∧ Row w' B_ 21 1 encI32 b ys ∧ (Sw (ff + lo) (ff + hi) s ys) ∧ (HP ys ff lo hi) ∧ Ch (fun k => Value.ownBlock b = some k) w w') := by
 refine wG 76 func151 rfl ?_
 have i := Below.refl B_ w
 have d : B_ ≤ (World.heap w).size := hs0
 have hc := Ch.refl (fun k => Value.ownBlock b = some k) w
 have o : ∀ g, Value.ownBlock b = some g → (World.heap w).size ≤ g ∨ (fun k => Value.ownBlock b = some k) g := fun g h => .inr h
 refine wR (zH (zI (nQ (zY (xD (fun m s0 w0 => ∃ (r : Nat) (ys : List Int), (m = hi - r) ∧ (s0.ds = []) ∧ ([0, 2, 3, 8].map s0.f = [b, (N6 hi), (N6 ff), (N6 r)]) ∧ (Row w0 B_ 21 1 encI32 b ys) ∧ (Below B_ w w0) ∧ (Ch (fun k => Value.ownBlock b = some k) w w0) ∧ (B_ ≤ w0.heap.size) ∧ (lo ≤ r ∧ (r = lo ∨ r < hi)) ∧ (ys.length = s.length) ∧ (Sw (ff + lo) (ff + hi) s ys) ∧ (HX ys ff lo hi r)) _ ⟨lo, s, rfl, zk, zk, a, i, hc, d, zo, rfl, .refl, (HX.start h5)⟩ ?_)))))
 rintro m1 s2 w3 ⟨r, ys, hm, a1, d0, a, i, hc, d, i1, i3, i4, i5⟩
 refine yU d0 (zY (wR (zH (L_mulN 2 r zo zk zk (zad (2 * r) 1 (zI (nW (wR (zH (zH (nGe ((2 * r) + 1) hi ?_ ?_)))))))))))
 ·intro h4
  refine nQ (zT (yR (zL (zxo (zL (yD (znrm [] (hd := a1) ?_)))))))
  exact ⟨ys, rfl, a, (by exact i4), (by exact i5.done (mx_none zo)), hc⟩
 intro h5
 refine nQ (zF (zP (zD (yA (yA (xJ zk zk (yE (Lq_addN ((2 * r) + 1) 1 zo zk zk (yE (Lq_cmp .i64 (((((2 * r) + 1) + 1) : Nat) : Int) ((hi : Nat) : Int) ((((2 * r) + 1) + 1) < hi) rfl (cmpN_lt (((2 * r) + 1) + 1) hi) zk zk ?_ ?_))))))))))
 ·intro h6
  replace h6 : (((2 * r) + 1) + 1) < hi := by omega
  refine yE (qw (yE (qw (yE (qw (yE (qw (Lq_addN ff ((2 * r) + 1) zo zk zk (qw ?_)))))))))
  have c := zU ys (ff + ((2 * r) + 1)) zo; obtain ⟨x7, ah⟩ := c
  have c := (a.rd).at (k := 1) zj ah
  obtain ⟨g9, b1, cv, c8⟩ := c
  refine yJ (k := .i64) b (ff + ((2 * r) + 1)) _ g9 b1 yN cv zo zk zk (qw (yQ g9 (b1 + (ff + ((2 * r) + 1)) * 1) (I3 x7) zk zf (c8 0 _ rfl) (qw (yE (qw (yE (qw (yE (qw (Lq_addN ff ((2 * r) + 1) zo zk zk (qw (Lq_addN (ff + ((2 * r) + 1)) 1 zo zk zk (qw ?_)))))))))))))
  have c := zU ys ((ff + ((2 * r) + 1)) + 1) zo; obtain ⟨bk, b0⟩ := c
  have c := (a.rd).at (k := 1) zj b0
  obtain ⟨c4, bq, dd, cz⟩ := c
  refine yJ (k := .i64) b ((ff + ((2 * r) + 1)) + 1) _ c4 bq yN dd zo zk zk (qw (yQ c4 (bq + ((ff + ((2 * r) + 1)) + 1) * 1) (I3 bk) zk zf (cz 0 _ rfl) (qw (xS 134 [(I3 x7), (I3 bk)] (.bool (decide (x7 < bk))) zg (fun wq hbq => wJ x7 bk wq ) (yY (decide (x7 < bk)) ?_ ?_)))))
  ·intro dx
   have di := el_lt ah b0 dx
   refine qT (yS ?_)
   intro ew ar
   replace i := i.trans (ar.mono d)
   replace d := Nat.le_trans d (ar.size)
   refine zD (zT (zV (zH (zad ((2 * r) + 1) 1 (zI (nW (yA (xJ zk zk (yE (yE (yE (Lq_addN ff r zo zk zk ?_))))))))))))
   have c := zU ys (ff + r) zo; obtain ⟨y, p⟩ := c
   replace a := a.below ar
   have c := (a.rd).at (k := 1) zj p
   obtain ⟨cr, bx, cq, c0⟩ := c
   refine yJ (k := .i64) b (ff + r) _ cr bx yN cq zo zk zk (yQ cr (bx + (ff + r) * 1) (I3 y) zk zf (c0 0 _ rfl) (yE (yE (yE (Lq_addN ff (((2 * r) + 1) + 1) zo zk zk ?_)))))
   have c := zU ys (ff + (((2 * r) + 1) + 1)) zo; obtain ⟨t, ac⟩ := c
   have c := (a.rd).at (k := 1) zj ac
   obtain ⟨cy, bo, c3, c1⟩ := c
   refine yJ (k := .i64) b (ff + (((2 * r) + 1) + 1)) _ cy bo yN c3 zo zk zk (yQ cy (bo + (ff + (((2 * r) + 1) + 1)) * 1) (I3 t) zk zf (c1 0 _ rfl) (xS 134 [(I3 y), (I3 t)] (.bool (decide (y < t))) zg (fun wq hbq => wJ y t wq ) (yY (decide (y < t)) ?_ ?_)))
   ·intro d4
    have dl := el_lt p ac d4
    refine xU true zk (yS ?_)
    intro et a8
    replace i := i.trans (a8.mono d)
    replace d := Nat.le_trans d (a8.size)
    refine zD (zF (zP (zD (yA (xE 21 24 zk zk zk ?_)))))
    intro ep a6
    replace i := i.trans (a6.mono d)
    replace d := Nat.le_trans d (a6.size)
    refine ⟨fun w => (Rd w encI32 b ys), ?_⟩
    replace a := (a.below a8).below a6
    refine mp 0 rfl b (.inr a.rd) zg (hq := (zA (zB (zA (zB zE))))) (mp 1 rfl (N6 ff) (.inr a.rd) zg (hq := (zA (zB (zA (zB zE))))) (mp 2 rfl (N6 r) (.inr a.rd) zg (hq := (zA (zB (zA (zB zE))))) (mp 3 rfl (N6 (ff + r)) (.inr a.rd) (fun w2 _ => xR ff r zo zk zk w2) (hq := (zA (zB (zA (zB zE))))) (mp 4 rfl b (.inr a.rd) zg (hq := (zA (zB (zA (zB zE))))) (mp 5 rfl (N6 ff) (.inr a.rd) zg (hq := (zA (zB (zA (zB zE))))) (mp 6 rfl (N6 (((2 * r) + 1) + 1)) (.inr a.rd) zg (hq := (zA (zB (zA (zB zE))))) (mp 7 rfl (N6 (ff + (((2 * r) + 1) + 1))) (.inr a.rd) (fun w2 _ => xR ff (((2 * r) + 1) + 1) zo zk zk w2) (hq := (zA (zB (zA (zB zE))))) (mp 8 rfl b (.inr a.rd) zg (hq := (zA (zB (zA (zB zE))))) (mp 9 rfl (N6 ff) (.inr a.rd) zg (hq := (zA (zB (zA (zB zE))))) (mp 10 rfl (N6 (((2 * r) + 1) + 1)) (.inr a.rd) zg (hq := (zA (zB (zA (zB zE))))) (mp 11 rfl (N6 (ff + (((2 * r) + 1) + 1))) (.inr a.rd) (fun w2 _ => xR ff (((2 * r) + 1) + 1) zo zk zk w2) (hq := (zA (zB (zA (zB zE))))) ?_)))))))))))
    have c := (a.rd).at (k := 1) zj ac; obtain ⟨cd, a0, b9, ee⟩ := c
    refine mp 12 rfl (pt cd (a0 + (ff + (((2 * r) + 1) + 1)) * 1)) (.inr a.rd) (zX (k := .i64) b (ff + (((2 * r) + 1) + 1)) _ cd a0 yN b9 zo zk zk) (hq := (zA (zB (zA (zB zE))))) (mt 13 [13, 20, 21, 22, 23] rfl (I3 t) a.rd (yM cd (a0 + (ff + (((2 * r) + 1) + 1)) * 1) (I3 t) zk zf (fun w2 h2 => Rd.later (k := 1) h2 zj b9 ac 0 _ rfl)) (hq := (zA (zB (zA (zB zE))))) (mp 14 rfl b (.inr a.rd) zg (hq := (zA (zB (zA (zB zE))))) (mp 15 rfl (N6 ff) (.inr a.rd) zg (hq := (zA (zB (zA (zB zE))))) (mp 16 rfl (N6 r) (.inr a.rd) zg (hq := (zA (zB (zA (zB zE))))) (mp 17 rfl (N6 (ff + r)) (.inr a.rd) (fun w2 _ => xR ff r zo zk zk w2) (hq := (zA (zB (zA (zB zE))))) ?_)))))
    have c := (a.rd).at (k := 1) zj p; obtain ⟨co, a2, b6, eb⟩ := c
    refine mp 18 rfl (pt co (a2 + (ff + r) * 1)) (.inr a.rd) (zX (k := .i64) b (ff + r) _ co a2 yN b6 zo zk zk) (hq := (zA (zB (zA (zB zE))))) (mt 19 [19, 20, 21, 22, 23] rfl (I3 y) a.rd (yM co (a2 + (ff + r) * 1) (I3 y) zk zf (fun w2 h2 => Rd.later (k := 1) h2 zj b6 p 0 _ rfl)) (hq := (zA (zB (zA (zB zE))))) ?_)
    have c := (a.rd).at (k := 1) zj p; obtain ⟨ci, a5, b5, eg⟩ := c
    refine mp 20 rfl (pt ci (a5 + (ff + r) * 1)) (.inr a.rd) (zX (k := .i64) b (ff + r) _ ci a5 yN b5 zo zk zk) (hq := (zA (zB (zA (zB zE))))) (yI 21 zk (yX 21 rfl ?_ rfl))
    refine yG (ff + r) 0 ci a5 y t (I3 t) a zj p b5 zk zk rfl zk zk rfl ?_
    intro es cs bv
    replace i := i.tg d bv a
    replace d := Nat.le_trans d (bv.size)
    replace a := cs
    have ec : (List.set ys (ff + r) t)[(ff + r)]? = some t := yL p
    refine zS ?_
    refine ⟨rfl, .inl zk, ?_⟩
    have c := zU (List.set ys (ff + r) t) (ff + (((2 * r) + 1) + 1)) (by (simp only [yH, List.length_set] at *; omega)); obtain ⟨dk, bd⟩ := c
    have c := (a.rd).at (k := 1) zj bd; obtain ⟨ch, ay, b8, eo⟩ := c
    refine mp 22 rfl (pt ch (ay + (ff + (((2 * r) + 1) + 1)) * 1)) (.inl zk) (zX (k := .i64) b (ff + (((2 * r) + 1) + 1)) _ ch ay yN b8 (by (simp only [yH, List.length_set] at *; omega)) zk zk) (hq := (zA (zB (zA (zB zE))))) (yI 23 zk (yX 23 rfl ?_ rfl))
    refine yG (ff + (((2 * r) + 1) + 1)) 0 ch ay dk y (I3 y) a zj bd b8 zk zk rfl zk zk rfl ?_
    intro er db bm
    replace i := i.tg d bm a
    replace d := Nat.le_trans d (bm.size)
    replace a := db
    have ek : (List.set (List.set ys (ff + r) t) (ff + (((2 * r) + 1) + 1)) y)[(ff + (((2 * r) + 1) + 1))]? = some y := yL bd
    have eS := xG p ac
    replace a := a.cast eS; clear eS
    refine zS ?_
    refine ⟨rfl, .inl zk, yW zk (zD (zV (zH (zI (zS (zJ ?_))))))⟩
    replace hc := ((((hc.trans2 (Ch.of_below ar) (fun _ h => h.elim)).trans2 (Ch.of_below a8) (fun _ h => h.elim)).trans2 (Ch.of_below a6) (fun _ h => h.elim)).trans2 (Ch.of_grown bv) (fun k e => o k e)).trans2 (Ch.of_grown bm) (fun k e => o k e)
    refine zD ⟨_, zo, (((2 * r) + 1) + 1), (swp ys (ff + r) (ff + (((2 * r) + 1) + 1))), rfl, a1, zk, a, i, hc, d, zo, ?_, ?_, ?_⟩
    ·rw [yH]; exact i3
    ·exact .swap _ _ i4 zo zo zo
    exact i5.step (m := 2 * r + 1 + 1) zo zo zo zo (mx_m2 zo) zo
   intro d2
   have dq := el_le p ac d2
   refine xU false zk (yS ?_)
   intro ey a9
   replace i := i.trans (a9.mono d)
   replace d := Nat.le_trans d (a9.size)
   refine zD (zT (zW (zK (zR (zK (zR (yF [] (hd := a1) ?_)))))))
   replace hc := (hc.trans2 (Ch.of_below ar) (fun _ h => h.elim)).trans2 (Ch.of_below a9) (fun _ h => h.elim)
   replace a := a.below a9
   exact ⟨ys, rfl, a, (by exact i4), (by exact i5.done (mx_2 zo zo)), hc⟩
  intro d5
  have d3 := el_le ah b0 d5
  refine qT (yS ?_)
  intro ev au
  replace i := i.trans (au.mono d)
  replace d := Nat.le_trans d (au.size)
  refine zD (zF (zP (zD (yA (yA (xJ zk zk (yE (yE (yE (Lq_addN ff r zo zk zk ?_))))))))))
  have c := zU ys (ff + r) zo; obtain ⟨z, q⟩ := c
  replace a := a.below au
  have c := (a.rd).at (k := 1) zj q
  obtain ⟨cx, bi, c9, dc⟩ := c
  refine yJ (k := .i64) b (ff + r) _ cx bi yN c9 zo zk zk (yQ cx (bi + (ff + r) * 1) (I3 z) zk zf (dc 0 _ rfl) (yE (yE (yE (Lq_addN ff ((2 * r) + 1) zo zk zk ?_)))))
  have c := (a.rd).at (k := 1) zj ah
  obtain ⟨da, bw, c2, c5⟩ := c
  refine yJ (k := .i64) b (ff + ((2 * r) + 1)) _ da bw yN c2 zo zk zk (yQ da (bw + (ff + ((2 * r) + 1)) * 1) (I3 x7) zk zf (c5 0 _ rfl) (xS 134 [(I3 z), (I3 x7)] (.bool (decide (z < x7))) zg (fun wq hbq => wJ z x7 wq ) (yY (decide (z < x7)) ?_ ?_)))
  ·intro dj
   have dm := el_lt q ah dj
   refine xU true zk (yS ?_)
   intro ez a7
   replace i := i.trans (a7.mono d)
   replace d := Nat.le_trans d (a7.size)
   refine zD (zF (zP (zD (yA (xE 21 24 zk zk zk ?_)))))
   intro eu bc
   replace i := i.trans (bc.mono d)
   replace d := Nat.le_trans d (bc.size)
   refine ⟨fun w => (Rd w encI32 b ys), ?_⟩
   replace a := (a.below a7).below bc
   refine mp 0 rfl b (.inr a.rd) zg (hq := (zA (zB (zA (zB zE))))) (mp 1 rfl (N6 ff) (.inr a.rd) zg (hq := (zA (zB (zA (zB zE))))) (mp 2 rfl (N6 r) (.inr a.rd) zg (hq := (zA (zB (zA (zB zE))))) (mp 3 rfl (N6 (ff + r)) (.inr a.rd) (fun w2 _ => xR ff r zo zk zk w2) (hq := (zA (zB (zA (zB zE))))) (mp 4 rfl b (.inr a.rd) zg (hq := (zA (zB (zA (zB zE))))) (mp 5 rfl (N6 ff) (.inr a.rd) zg (hq := (zA (zB (zA (zB zE))))) (mp 6 rfl (N6 ((2 * r) + 1)) (.inr a.rd) zg (hq := (zA (zB (zA (zB zE))))) (mp 7 rfl (N6 (ff + ((2 * r) + 1))) (.inr a.rd) (fun w2 _ => xR ff ((2 * r) + 1) zo zk zk w2) (hq := (zA (zB (zA (zB zE))))) (mp 8 rfl b (.inr a.rd) zg (hq := (zA (zB (zA (zB zE))))) (mp 9 rfl (N6 ff) (.inr a.rd) zg (hq := (zA (zB (zA (zB zE))))) (mp 10 rfl (N6 ((2 * r) + 1)) (.inr a.rd) zg (hq := (zA (zB (zA (zB zE))))) (mp 11 rfl (N6 (ff + ((2 * r) + 1))) (.inr a.rd) (fun w2 _ => xR ff ((2 * r) + 1) zo zk zk w2) (hq := (zA (zB (zA (zB zE))))) ?_)))))))))))
   have c := (a.rd).at (k := 1) zj ah; obtain ⟨bp, ai, be, dw⟩ := c
   refine mp 12 rfl (pt bp (ai + (ff + ((2 * r) + 1)) * 1)) (.inr a.rd) (zX (k := .i64) b (ff + ((2 * r) + 1)) _ bp ai yN be zo zk zk) (hq := (zA (zB (zA (zB zE))))) (mt 13 [13, 20, 21, 22, 23] rfl (I3 x7) a.rd (yM bp (ai + (ff + ((2 * r) + 1)) * 1) (I3 x7) zk zf (fun w2 h2 => Rd.later (k := 1) h2 zj be ah 0 _ rfl)) (hq := (zA (zB (zA (zB zE))))) (mp 14 rfl b (.inr a.rd) zg (hq := (zA (zB (zA (zB zE))))) (mp 15 rfl (N6 ff) (.inr a.rd) zg (hq := (zA (zB (zA (zB zE))))) (mp 16 rfl (N6 r) (.inr a.rd) zg (hq := (zA (zB (zA (zB zE))))) (mp 17 rfl (N6 (ff + r)) (.inr a.rd) (fun w2 _ => xR ff r zo zk zk w2) (hq := (zA (zB (zA (zB zE))))) ?_)))))
   have c := (a.rd).at (k := 1) zj q; obtain ⟨bg, an, bl, du⟩ := c
   refine mp 18 rfl (pt bg (an + (ff + r) * 1)) (.inr a.rd) (zX (k := .i64) b (ff + r) _ bg an yN bl zo zk zk) (hq := (zA (zB (zA (zB zE))))) (mt 19 [19, 20, 21, 22, 23] rfl (I3 z) a.rd (yM bg (an + (ff + r) * 1) (I3 z) zk zf (fun w2 h2 => Rd.later (k := 1) h2 zj bl q 0 _ rfl)) (hq := (zA (zB (zA (zB zE))))) ?_)
   have c := (a.rd).at (k := 1) zj q; obtain ⟨bu, al, bs, dr⟩ := c
   refine mp 20 rfl (pt bu (al + (ff + r) * 1)) (.inr a.rd) (zX (k := .i64) b (ff + r) _ bu al yN bs zo zk zk) (hq := (zA (zB (zA (zB zE))))) (yI 21 zk (yX 21 rfl ?_ rfl))
   refine yG (ff + r) 0 bu al z x7 (I3 x7) a zj q bs zk zk rfl zk zk rfl ?_
   intro em cj a3
   replace i := i.tg d a3 a
   replace d := Nat.le_trans d (a3.size)
   replace a := cj
   have dy : (List.set ys (ff + r) x7)[(ff + r)]? = some x7 := yL q
   refine zS ?_
   refine ⟨rfl, .inl zk, ?_⟩
   have c := zU (List.set ys (ff + r) x7) (ff + ((2 * r) + 1)) (by (simp only [yH, List.length_set] at *; omega)); obtain ⟨cu, ax⟩ := c
   have c := (a.rd).at (k := 1) zj ax; obtain ⟨bj, ad, bz, d6⟩ := c
   refine mp 22 rfl (pt bj (ad + (ff + ((2 * r) + 1)) * 1)) (.inl zk) (zX (k := .i64) b (ff + ((2 * r) + 1)) _ bj ad yN bz (by (simp only [yH, List.length_set] at *; omega)) zk zk) (hq := (zA (zB (zA (zB zE))))) (yI 23 zk (yX 23 rfl ?_ rfl))
   refine yG (ff + ((2 * r) + 1)) 0 bj ad cu z (I3 z) a zj ax bz zk zk rfl zk zk rfl ?_
   intro d9 cn a4
   replace i := i.tg d a4 a
   replace d := Nat.le_trans d (a4.size)
   replace a := cn
   have d8 : (List.set (List.set ys (ff + r) x7) (ff + ((2 * r) + 1)) z)[(ff + ((2 * r) + 1))]? = some z := yL ax
   have eS := xG q ah
   replace a := a.cast eS; clear eS
   refine zS ?_
   refine ⟨rfl, .inl zk, yW zk (zD (zV (zH (zI (zS (zJ ?_))))))⟩
   replace hc := ((((hc.trans2 (Ch.of_below au) (fun _ h => h.elim)).trans2 (Ch.of_below a7) (fun _ h => h.elim)).trans2 (Ch.of_below bc) (fun _ h => h.elim)).trans2 (Ch.of_grown a3) (fun k e => o k e)).trans2 (Ch.of_grown a4) (fun k e => o k e)
   refine zD ⟨_, zo, ((2 * r) + 1), (swp ys (ff + r) (ff + ((2 * r) + 1))), rfl, a1, zk, a, i, hc, d, zo, ?_, ?_, ?_⟩
   ·rw [yH]; exact i3
   ·exact .swap _ _ i4 zo zo zo
   exact i5.step (m := 2 * r + 1) zo zo zo zo (mx_m1b zo) zo
  intro c6
  have dh := el_le q ah c6
  refine xU false zk (yS ?_)
  intro ej ao
  replace i := i.trans (ao.mono d)
  replace d := Nat.le_trans d (ao.size)
  refine zD (zT (zW (zK (zR (zK (zR (yF [] (hd := a1) ?_)))))))
  replace hc := (hc.trans2 (Ch.of_below au) (fun _ h => h.elim)).trans2 (Ch.of_below ao) (fun _ h => h.elim)
  replace a := a.below ao
  exact ⟨ys, rfl, a, (by exact i4), (by exact i5.done (mx_3 zo zo)), hc⟩
 intro c7
 replace c7 : hi ≤ (((2 * r) + 1) + 1) := by omega
 refine yE (qs (qs (qs (qs (qs (qs (qs (qs (qs (qs (qs (qs (qs (qs (qF (yS ?_))))))))))))))))
 intro en aa
 replace i := i.trans (aa.mono d)
 replace d := Nat.le_trans d (aa.size)
 refine zD (zF (zP (zD (yA (yA (xJ zk zk (yE (yE (yE (Lq_addN ff r zo zk zk ?_))))))))))
 have c := zU ys (ff + r) zo; obtain ⟨n, l⟩ := c
 replace a := a.below aa
 have c := (a.rd).at (k := 1) zj l
 obtain ⟨b7, ba, cg, cp⟩ := c
 refine yJ (k := .i64) b (ff + r) _ b7 ba yN cg zo zk zk (yQ b7 (ba + (ff + r) * 1) (I3 n) zk zf (cp 0 _ rfl) (yE (yE (yE (Lq_addN ff ((2 * r) + 1) zo zk zk ?_)))))
 have c := zU ys (ff + ((2 * r) + 1)) zo; obtain ⟨j, u⟩ := c
 have c := (a.rd).at (k := 1) zj u
 obtain ⟨ca, bb, cm, cc⟩ := c
 refine yJ (k := .i64) b (ff + ((2 * r) + 1)) _ ca bb yN cm zo zk zk (yQ ca (bb + (ff + ((2 * r) + 1)) * 1) (I3 j) zk zf (cc 0 _ rfl) (xS 134 [(I3 n), (I3 j)] (.bool (decide (n < j))) zg (fun wq hbq => wJ n j wq ) (yY (decide (n < j)) ?_ ?_)))
 ·intro ct
  have df := el_lt l u ct
  refine xU true zk (yS ?_)
  intro ed ae
  replace i := i.trans (ae.mono d)
  replace d := Nat.le_trans d (ae.size)
  refine zD (zF (zP (zD (yA (xE 21 24 zk zk zk ?_)))))
  intro el ag
  replace i := i.trans (ag.mono d)
  replace d := Nat.le_trans d (ag.size)
  refine ⟨fun w => (Rd w encI32 b ys), ?_⟩
  replace a := (a.below ae).below ag
  refine mp 0 rfl b (.inr a.rd) zg (hq := (zA (zB (zA (zB zE))))) (mp 1 rfl (N6 ff) (.inr a.rd) zg (hq := (zA (zB (zA (zB zE))))) (mp 2 rfl (N6 r) (.inr a.rd) zg (hq := (zA (zB (zA (zB zE))))) (mp 3 rfl (N6 (ff + r)) (.inr a.rd) (fun w2 _ => xR ff r zo zk zk w2) (hq := (zA (zB (zA (zB zE))))) (mp 4 rfl b (.inr a.rd) zg (hq := (zA (zB (zA (zB zE))))) (mp 5 rfl (N6 ff) (.inr a.rd) zg (hq := (zA (zB (zA (zB zE))))) (mp 6 rfl (N6 ((2 * r) + 1)) (.inr a.rd) zg (hq := (zA (zB (zA (zB zE))))) (mp 7 rfl (N6 (ff + ((2 * r) + 1))) (.inr a.rd) (fun w2 _ => xR ff ((2 * r) + 1) zo zk zk w2) (hq := (zA (zB (zA (zB zE))))) (mp 8 rfl b (.inr a.rd) zg (hq := (zA (zB (zA (zB zE))))) (mp 9 rfl (N6 ff) (.inr a.rd) zg (hq := (zA (zB (zA (zB zE))))) (mp 10 rfl (N6 ((2 * r) + 1)) (.inr a.rd) zg (hq := (zA (zB (zA (zB zE))))) (mp 11 rfl (N6 (ff + ((2 * r) + 1))) (.inr a.rd) (fun w2 _ => xR ff ((2 * r) + 1) zo zk zk w2) (hq := (zA (zB (zA (zB zE))))) ?_)))))))))))
  have c := (a.rd).at (k := 1) zj u; obtain ⟨b4, aj, b2, dn⟩ := c
  refine mp 12 rfl (pt b4 (aj + (ff + ((2 * r) + 1)) * 1)) (.inr a.rd) (zX (k := .i64) b (ff + ((2 * r) + 1)) _ b4 aj yN b2 zo zk zk) (hq := (zA (zB (zA (zB zE))))) (mt 13 [13, 20, 21, 22, 23] rfl (I3 j) a.rd (yM b4 (aj + (ff + ((2 * r) + 1)) * 1) (I3 j) zk zf (fun w2 h2 => Rd.later (k := 1) h2 zj b2 u 0 _ rfl)) (hq := (zA (zB (zA (zB zE))))) (mp 14 rfl b (.inr a.rd) zg (hq := (zA (zB (zA (zB zE))))) (mp 15 rfl (N6 ff) (.inr a.rd) zg (hq := (zA (zB (zA (zB zE))))) (mp 16 rfl (N6 r) (.inr a.rd) zg (hq := (zA (zB (zA (zB zE))))) (mp 17 rfl (N6 (ff + r)) (.inr a.rd) (fun w2 _ => xR ff r zo zk zk w2) (hq := (zA (zB (zA (zB zE))))) ?_)))))
  have c := (a.rd).at (k := 1) zj l; obtain ⟨bt, ap, bh, d1⟩ := c
  refine mp 18 rfl (pt bt (ap + (ff + r) * 1)) (.inr a.rd) (zX (k := .i64) b (ff + r) _ bt ap yN bh zo zk zk) (hq := (zA (zB (zA (zB zE))))) (mt 19 [19, 20, 21, 22, 23] rfl (I3 n) a.rd (yM bt (ap + (ff + r) * 1) (I3 n) zk zf (fun w2 h2 => Rd.later (k := 1) h2 zj bh l 0 _ rfl)) (hq := (zA (zB (zA (zB zE))))) ?_)
  have c := (a.rd).at (k := 1) zj l; obtain ⟨b3, am, bn, d7⟩ := c
  refine mp 20 rfl (pt b3 (am + (ff + r) * 1)) (.inr a.rd) (zX (k := .i64) b (ff + r) _ b3 am yN bn zo zk zk) (hq := (zA (zB (zA (zB zE))))) (yI 21 zk (yX 21 rfl ?_ rfl))
  refine yG (ff + r) 0 b3 am n j (I3 j) a zj l bn zk zk rfl zk zk rfl ?_
  intro eh cf av
  replace i := i.tg d av a
  replace d := Nat.le_trans d (av.size)
  replace a := cf
  have dz : (List.set ys (ff + r) j)[(ff + r)]? = some j := yL l
  refine zS ?_
  refine ⟨rfl, .inl zk, ?_⟩
  have c := zU (List.set ys (ff + r) j) (ff + ((2 * r) + 1)) (by (simp only [yH, List.length_set] at *; omega)); obtain ⟨de, az⟩ := c
  have c := (a.rd).at (k := 1) zj az; obtain ⟨bf, ak, br, dv⟩ := c
  refine mp 22 rfl (pt bf (ak + (ff + ((2 * r) + 1)) * 1)) (.inl zk) (zX (k := .i64) b (ff + ((2 * r) + 1)) _ bf ak yN br (by (simp only [yH, List.length_set] at *; omega)) zk zk) (hq := (zA (zB (zA (zB zE))))) (yI 23 zk (yX 23 rfl ?_ rfl))
  refine yG (ff + ((2 * r) + 1)) 0 bf ak de n (I3 n) a zj az br zk zk rfl zk zk rfl ?_
  intro ea cl aw
  replace i := i.tg d aw a
  replace d := Nat.le_trans d (aw.size)
  replace a := cl
  have dp : (List.set (List.set ys (ff + r) j) (ff + ((2 * r) + 1)) n)[(ff + ((2 * r) + 1))]? = some n := yL az
  have eS := xG l u
  replace a := a.cast eS; clear eS
  refine zS ?_
  refine ⟨rfl, .inl zk, yW zk (zD (zV (zH (zI (zS (zJ ?_))))))⟩
  replace hc := ((((hc.trans2 (Ch.of_below aa) (fun _ h => h.elim)).trans2 (Ch.of_below ae) (fun _ h => h.elim)).trans2 (Ch.of_below ag) (fun _ h => h.elim)).trans2 (Ch.of_grown av) (fun k e => o k e)).trans2 (Ch.of_grown aw) (fun k e => o k e)
  refine zD ⟨_, zo, ((2 * r) + 1), (swp ys (ff + r) (ff + ((2 * r) + 1))), rfl, a1, zk, a, i, hc, d, zo, ?_, ?_, ?_⟩
  ·rw [yH]; exact i3
  ·exact .swap _ _ i4 zo zo zo
  exact i5.step (m := 2 * r + 1) zo zo zo zo (mx_m1 zo) zo
 intro cw
 have dg := el_le l u cw
 refine xU false zk (yS ?_)
 intro ei af
 replace i := i.trans (af.mono d)
 replace d := Nat.le_trans d (af.size)
 refine zD (zT (zW (zK (zR (zK (zR (yF [] (hd := a1) ?_)))))))
 replace hc := (hc.trans2 (Ch.of_below aa) (fun _ h => h.elim)).trans2 (Ch.of_below af) (fun _ h => h.elim)
 replace a := a.below af
 exact ⟨ys, rfl, a, (by exact i4), (by exact i5.done (mx_1 zo zo)), hc⟩
theorem c_heap (B_ : Nat) (d : Value) (s : List (Int)) (a : Nat) (b : Nat) (w : World) (hs0 : B_ ≤ w.heap.size) (c : Row w B_ 21 1 encI32 d s) (h1 : a < b) (h2 : b ≤ s.length) (h3 : s.length ≤ 2305843009213693951) :
  Calls Tryz.prog 129 #[d, (N6 a), (N6 b)] w (Ret fun v w' => ∃ (ys : List (Int)), v = (.tuple #[]) ∧ Row w' B_ 21 1 encI32 d ys ∧ (Sw a b s ys) ∧ (Srt ys a b) ∧ Ch (fun k => Value.ownBlock d = some k) w w') := by
 refine wG 56 func129 rfl ?_
 have p := Below.refl B_ w
 have l : B_ ≤ (World.heap w).size := hs0
 have hc := Ch.refl (fun k => Value.ownBlock d = some k) w
 have j : ∀ g, Value.ownBlock d = some g → (World.heap w).size ≤ g ∨ (fun k => Value.ownBlock d = some k) g := fun g h => .inr h
 refine wR (zH (zI (nR (zI (nR (zH (zH (zsb b a (zI (nW (wR (zH (zsb (b - a) 1 (L_quoN ((b - a) - 1) 2 zo zo zk zk (zI (nQ (zY (xD (fun m s0 w0 => ∃ (z : Int) (ys : List Int), (m = (z + 1).toNat) ∧ (s0.ds = []) ∧ ([0, 6, 7, 8, 9].map s0.f = [d, (N6 a), (I6 0), (N6 (b - a)), (I6 z)]) ∧ (Row w0 B_ 21 1 encI32 d ys) ∧ (Below B_ w w0) ∧ (Ch (fun k => Value.ownBlock d = some k) w w0) ∧ (B_ ≤ w0.heap.size) ∧ (-1 ≤ z ∧ z ≤ (b : Int) - a) ∧ (ys.length = s.length) ∧ (Sw a b s ys) ∧ (HP ys a (z + 1).toNat (b - a))) _ ⟨(((((b - a) - 1) / 2) : Nat) : Int), s, rfl, zk, zk, c, p, hc, l, zo, rfl, .refl, (HP.none zo)⟩ ?_))))))))))))))))))
 rintro m1 s2 w3 ⟨z, ys, hm, ah, au, c, p, hc, l, i1, i3, i4, i5⟩
 refine yU au (yA (wR (zH (zGe .i64 z 0 ?_ ?_))))
 ·intro h4
  obtain ⟨n5, rfl⟩ := Int.eq_ofNat_of_zero_le h4
  refine nQ (zT (zP (zD (yA (zY (zV (zH (zH (zH (zH (zc (c_sift B_ d ys n5 (b - a) a _ l c zo zo zo (by exact HP.at i5 zo)) ?_)))))))))))
  rintro _ w7 ⟨a5, rfl, a6, bf, bj, ar⟩
  replace p := ar.below p l (fun k e => (World.ownsRow.lt c k e).1)
  replace l := Nat.le_trans l ar.size
  replace c := a6
  refine zS (zJ (zD (zV (zH (xM ((n5 : Nat) : Int) 1 (((n5 : Nat) : Int) - 1) rfl zk zk (xC _ zh zh) (zI (zS ?_)))))))
  replace hc := hc.trans2 ar (fun k e => j k e)
  refine zD ⟨_, zo, (((n5 : Nat) : Int) - 1), a5, rfl, ah, zk, c, p, hc, l, zo, ?_, ?_, ?_⟩
  ·exact (hf_sw1 za).trans i3
  ·exact i4.trans (Sw.mono za zo zo zo)
  exact HP.at za zo
 intro bq
 refine nQ (zF (yR (zL (zL (yD (zD (wR (zH (zsb (b - a) 1 (zI (nQ (zY (xD (fun m s0 w0 => ∃ (z2 : Int) (zs : List Int), (m = (z2 + 1).toNat) ∧ (s0.ds = []) ∧ ([0, 6, 7, 10].map s0.f = [d, (N6 a), (I6 0), (I6 z2)]) ∧ (Row w0 B_ 21 1 encI32 d zs) ∧ (Below B_ w w0) ∧ (Ch (fun k => Value.ownBlock d = some k) w w0) ∧ (B_ ≤ w0.heap.size) ∧ (-1 ≤ z2 ∧ z2 < (b : Int) - a) ∧ (zs.length = s.length) ∧ (Sw a b s zs) ∧ (HS zs a (b - a) (z2 + 1).toNat ∧ HP zs a 0 (z2 + 1).toNat)) _ ⟨((((b - a) - 1) : Nat) : Int), ys, rfl, ah, zk, c, p, hc, l, zo, i3, i4, (heap_start i5 zo zo)⟩ ?_)))))))))))))
 rintro br bu bp ⟨z2, zs, hm, ah, au, c, p, hc, l, k1, k3, k4, k5⟩
 refine yU au (yA (wR (zH (zGe .i64 z2 0 ?_ ?_))))
 ·intro a3
  obtain ⟨i, rfl⟩ := Int.eq_ofNat_of_zero_le a3
  refine nQ (zT (zP (zD (yA (zY (yA (xE 17 20 zk zk zk ?_)))))))
  intro bn ab
  replace p := p.trans (ab.mono l)
  replace l := Nat.le_trans l (ab.size)
  refine ⟨fun w => (Rd w encI32 d zs), ?_⟩
  replace c := c.below ab
  refine mp 0 rfl d (.inr c.rd) zg (hq := (zA (zB (zA (zA (zB zE)))))) (mp 1 rfl (N6 a) (.inr c.rd) zg (hq := (zA (zB (zA (zA (zB zE)))))) (mp 2 rfl d (.inr c.rd) zg (hq := (zA (zB (zA (zA (zB zE)))))) (mp 3 rfl (N6 a) (.inr c.rd) zg (hq := (zA (zB (zA (zA (zB zE)))))) (mp 4 rfl (N6 i) (.inr c.rd) zg (hq := (zA (zB (zA (zA (zB zE)))))) (mp 5 rfl (N6 (a + i)) (.inr c.rd) (fun w2 _ => xR a i zo zk zk w2) (hq := (zA (zB (zA (zA (zB zE)))))) (mp 6 rfl d (.inr c.rd) zg (hq := (zA (zB (zA (zA (zB zE)))))) (mp 7 rfl (N6 a) (.inr c.rd) zg (hq := (zA (zB (zA (zA (zB zE)))))) (mp 8 rfl (N6 i) (.inr c.rd) zg (hq := (zA (zB (zA (zA (zB zE)))))) (mp 9 rfl (N6 (a + i)) (.inr c.rd) (fun w2 _ => xR a i zo zk zk w2) (hq := (zA (zB (zA (zA (zB zE)))))) ?_)))))))))
  have hz := zU zs (a + i) zo; obtain ⟨o, aj⟩ := hz
  have hz := (c.rd).at (k := 1) zj aj; obtain ⟨ap, t, an, bg⟩ := hz
  refine mp 10 rfl (pt ap (t + (a + i) * 1)) (.inr c.rd) (zX (k := .i64) d (a + i) _ ap t yN an zo zk zk) (hq := (zA (zB (zA (zA (zB zE)))))) (mt 11 [11, 16, 17, 18, 19] rfl (I3 o) c.rd (yM ap (t + (a + i) * 1) (I3 o) zk zf (fun w2 h2 => Rd.later (k := 1) h2 zj an aj 0 _ rfl)) (hq := (zA (zB (zA (zA (zB zE)))))) (mp 12 rfl d (.inr c.rd) zg (hq := (zA (zB (zA (zA (zB zE)))))) (mp 13 rfl (N6 a) (.inr c.rd) zg (hq := (zA (zB (zA (zA (zB zE)))))) ?_)))
  have hz := zU zs a zo; obtain ⟨q, n⟩ := hz
  have hz := (c.rd).at (k := 1) zj n; obtain ⟨aw, u, am, bh⟩ := hz
  refine mp 14 rfl (pt aw (u + a * 1)) (.inr c.rd) (zX (k := .i64) d a _ aw u yN am zo zk zk) (hq := (zA (zB (zA (zA (zB zE)))))) (mt 15 [15, 16, 17, 18, 19] rfl (I3 q) c.rd (yM aw (u + a * 1) (I3 q) zk zf (fun w2 h2 => Rd.later (k := 1) h2 zj am n 0 _ rfl)) (hq := (zA (zB (zA (zA (zB zE)))))) ?_)
  have hz := (c.rd).at (k := 1) zj n; obtain ⟨aq, y, ao, bk⟩ := hz
  refine mp 16 rfl (pt aq (y + a * 1)) (.inr c.rd) (zX (k := .i64) d a _ aq y yN ao zo zk zk) (hq := (zA (zB (zA (zA (zB zE)))))) (yI 17 zk (yX 17 rfl ?_ rfl))
  refine yG a 0 aq y q o (I3 o) c zj n ao zk zk rfl zk zk rfl ?_
  intro bt az ag
  replace p := p.tg l ag c
  replace l := Nat.le_trans l (ag.size)
  replace c := az
  have bc : (List.set zs a o)[a]? = some o := yL n
  refine zS ?_
  refine ⟨rfl, .inl zk, ?_⟩
  have hz := zU (List.set zs a o) (a + i) (by (simp only [yH, List.length_set] at *; omega)); obtain ⟨a4, af⟩ := hz
  have hz := (c.rd).at (k := 1) zj af; obtain ⟨av, r, al, a8⟩ := hz
  refine mp 18 rfl (pt av (r + (a + i) * 1)) (.inl zk) (zX (k := .i64) d (a + i) _ av r yN al (by (simp only [yH, List.length_set] at *; omega)) zk zk) (hq := (zA (zB (zA (zA (zB zE)))))) (yI 19 zk (yX 19 rfl ?_ rfl))
  refine yG (a + i) 0 av r a4 q (I3 q) c zj af al zk zk rfl zk zk rfl ?_
  intro bs ay ae
  replace p := p.tg l ae c
  replace l := Nat.le_trans l (ae.size)
  replace c := ay
  have a7 : (List.set (List.set zs a o) (a + i) q)[(a + i)]? = some q := yL af
  have eS := xG n aj
  replace c := c.cast eS; clear eS
  refine zS ?_
  refine ⟨rfl, .inl zk, yW zk (zD (zV (zH (zH (zH (zH (zc (c_sift B_ d (swp zs a (a + i)) 0 i a _ l c (by (simp only [yH, List.length_set] at *; omega)) (by (simp only [yH, List.length_set] at *; omega)) zo (by exact heap_pop k5 zo zo zo)) ?_)))))))⟩
  replace hc := ((hc.trans2 (Ch.of_below ab) (fun _ h => h.elim)).trans2 (Ch.of_grown ag) (fun k e => j k e)).trans2 (Ch.of_grown ae) (fun k e => j k e)
  rintro _ bm ⟨ax, rfl, a0, bb, be, ai⟩
  replace p := ai.below p l (fun k e => (World.ownsRow.lt c k e).1)
  replace l := Nat.le_trans l ai.size
  replace c := a0
  refine zS (zJ (zD (zV (zH (xM ((i : Nat) : Int) 1 (((i : Nat) : Int) - 1) rfl zk zk (xC _ zh zh) (zI (zS ?_)))))))
  replace hc := hc.trans2 ai (fun k e => j k e)
  refine zD ⟨_, zo, (((i : Nat) : Int) - 1), ax, rfl, ah, zk, c, p, hc, l, zo, ?_, ?_, ?_⟩
  ·exact (hf_sw1 za).trans ((yH _ _ _).trans k3)
  ·exact heap_sw k4 za zo
  exact heap_keep k5 za za zo zo zo
 intro bo
 refine nQ (zF (yR (zL (zL (yD (znrm [] (hd := ah) ?_))))))
 exact ⟨zs, rfl, c, (by exact k4), (by exact (heap_done zo k5 zo)), hc⟩
end Go.Proofs.YtddnhlobnembaaaGreatDoor
end

/- === Wcsx === -/
section
/- Walks, written by my program walk.py out of the specification csx.py: each theorem says what one function returns and that it leaves memory as it was. -/
namespace Go.Proofs.YtddnhlobnembaaaGreatDoor
open Go Go.RowKit Go.FK _root_.Go.Proofs.Tryz
set_option maxHeartbeats 4000000
set_option maxRecDepth 100000
theorem c_rev (B_ : Nat) (d : Value) (s : List (Int)) (a : Nat) (b : Nat) (w : World) (hs0 : B_ ≤ w.heap.size) (c : Row w B_ 21 1 encI32 d s) (h1 : a < b) (h2 : b ≤ s.length) (h3 : s.length ≤ 2305843009213693951) :
  Calls Tryz.prog 132 #[d, (N6 a), (N6 b)] w (Ret fun v w' => ∃ (ys : List (Int)), v = (.tuple #[]) ∧ Row w' B_ 21 1 encI32 d ys ∧ (Sw a b s ys) ∧ Ch (fun k => Value.ownBlock d = some k) w w') := by
 refine wG 32 func132 rfl ?_
 have hb := Below.refl B_ w
 have y : B_ ≤ (World.heap w).size := hs0
 have hc := Ch.refl (fun k => Value.ownBlock d = some k) w
 have t : ∀ g, Value.ownBlock d = some g → (World.heap w).size ≤ g ∨ (fun k => Value.ownBlock d = some k) g := fun g h => .inr h
 refine wR (zH (zI (nR (zH (zsb b 1 (zI (nQ (zY (xD (fun m s0 w0 => ∃ (i : Nat) (j : Nat) (ys : List Int), (m = j - i) ∧ (s0.ds = []) ∧ ([0, 6, 7].map s0.f = [d, (N6 i), (N6 j)]) ∧ (Row w0 B_ 21 1 encI32 d ys) ∧ (Below B_ w w0) ∧ (Ch (fun k => Value.ownBlock d = some k) w w0) ∧ (B_ ≤ w0.heap.size) ∧ (a ≤ i ∧ i ≤ j + 1 ∧ j < b) ∧ (ys.length = s.length) ∧ (Sw a b s ys)) _ ⟨a, (b - 1), s, rfl, zk, zk, c, hb, hc, y, zo, rfl, .refl⟩ ?_)))))))))
 rintro m1 s2 w3 ⟨i, j, ys, hm, aq, av, c, hb, hc, y, i1, i3, i4⟩
 refine yU av (yA (wR (zH (zH (nLt i j ?_ ?_)))))
 ·intro h4
  refine nQ (zT (zP (zD (zY (yA (xE 13 16 zk zk zk ?_))))))
  intro w5 ad
  replace hb := hb.trans (ad.mono y)
  replace y := Nat.le_trans y (ad.size)
  refine ⟨fun w => (Rd w encI32 d ys), ?_⟩
  replace c := c.below ad
  refine mp 0 rfl d (.inr c.rd) zg (hq := (zA (zB (zA (zB zE))))) (mp 1 rfl (N6 i) (.inr c.rd) zg (hq := (zA (zB (zA (zB zE))))) (mp 2 rfl d (.inr c.rd) zg (hq := (zA (zB (zA (zB zE))))) (mp 3 rfl (N6 j) (.inr c.rd) zg (hq := (zA (zB (zA (zB zE))))) (mp 4 rfl d (.inr c.rd) zg (hq := (zA (zB (zA (zB zE))))) (mp 5 rfl (N6 j) (.inr c.rd) zg (hq := (zA (zB (zA (zB zE))))) ?_)))))
  have u := zU ys j zo; obtain ⟨x7, aj⟩ := u
  have u := (c.rd).at (k := 1) zj aj; obtain ⟨g9, p, ai, az⟩ := u
  refine mp 6 rfl (pt g9 (p + j * 1)) (.inr c.rd) (zX (k := .i64) d j _ g9 p yN ai zo zk zk) (hq := (zA (zB (zA (zB zE))))) (mt 7 [7, 12, 13, 14, 15] rfl (I3 x7) c.rd (yM g9 (p + j * 1) (I3 x7) zk zf (fun w2 h2 => Rd.later (k := 1) h2 zj ai aj 0 _ rfl)) (hq := (zA (zB (zA (zB zE))))) (mp 8 rfl d (.inr c.rd) zg (hq := (zA (zB (zA (zB zE))))) (mp 9 rfl (N6 i) (.inr c.rd) zg (hq := (zA (zB (zA (zB zE))))) ?_)))
  have u := zU ys i zo; obtain ⟨q, l⟩ := u
  have u := (c.rd).at (k := 1) zj l; obtain ⟨al, o, ah, ay⟩ := u
  refine mp 10 rfl (pt al (o + i * 1)) (.inr c.rd) (zX (k := .i64) d i _ al o yN ah zo zk zk) (hq := (zA (zB (zA (zB zE))))) (mt 11 [11, 12, 13, 14, 15] rfl (I3 q) c.rd (yM al (o + i * 1) (I3 q) zk zf (fun w2 h2 => Rd.later (k := 1) h2 zj ah l 0 _ rfl)) (hq := (zA (zB (zA (zB zE))))) ?_)
  have u := (c.rd).at (k := 1) zj l; obtain ⟨ak, r, ag, a1⟩ := u
  refine mp 12 rfl (pt ak (r + i * 1)) (.inr c.rd) (zX (k := .i64) d i _ ak r yN ag zo zk zk) (hq := (zA (zB (zA (zB zE))))) (yI 13 zk (yX 13 rfl ?_ rfl))
  refine yG i 0 ak r q x7 (I3 x7) c zj l ag zk zk rfl zk zk rfl ?_
  intro a7 ap z
  replace hb := hb.tg y z c
  replace y := Nat.le_trans y (z.size)
  replace c := ap
  have a3 : (List.set ys i x7)[i]? = some x7 := yL l
  refine zS ?_
  refine ⟨rfl, .inl zk, ?_⟩
  have u := zU (List.set ys i x7) j (by (simp only [yH, List.length_set] at *; omega)); obtain ⟨au, ab⟩ := u
  have u := (c.rd).at (k := 1) zj ab; obtain ⟨am, n, af, aw⟩ := u
  refine mp 14 rfl (pt am (n + j * 1)) (.inl zk) (zX (k := .i64) d j _ am n yN af (by (simp only [yH, List.length_set] at *; omega)) zk zk) (hq := (zA (zB (zA (zB zE))))) (yI 15 zk (yX 15 rfl ?_ rfl))
  refine yG j 0 am n au q (I3 q) c zj ab af zk zk rfl zk zk rfl ?_
  intro a4 ao aa
  replace hb := hb.tg y aa c
  replace y := Nat.le_trans y (aa.size)
  replace c := ao
  have a0 : (List.set (List.set ys i x7) j q)[j]? = some q := yL ab
  have eS := xG l aj
  replace c := c.cast eS; clear eS
  refine zS ?_
  refine ⟨rfl, .inl zk, yW zk (zD (wR (zH (zad i 1 (zI (nQ (zV (zH (zsb j 1 (zI (zS (zJ ?_))))))))))))⟩
  replace hc := ((hc.trans2 (Ch.of_below ad) (fun _ h => h.elim)).trans2 (Ch.of_grown z) (fun k e => t k e)).trans2 (Ch.of_grown aa) (fun k e => t k e)
  refine zD ⟨_, zo, (i + 1), (j - 1), (swp ys i j), rfl, aq, zk, c, hb, hc, y, zo, ?_, ?_⟩
  ·rw [yH]; exact i3
  exact .swap _ _ i4 zo zo zo
 intro a5
 refine nQ (zF (yR (zL (zL (yD (znrm [] (hd := aq) ?_))))))
 exact ⟨ys, rfl, c, (by exact i4), hc⟩
theorem c_parteq (B_ : Nat) (d : Value) (s : List (Int)) (a : Nat) (b : Nat) (pv : Nat) (w : World) (hs0 : B_ ≤ w.heap.size) (c : Row w B_ 21 1 encI32 d s) (h1 : a < b) (h2 : b ≤ s.length) (h3 : s.length ≤ 2305843009213693951) (h4 : a ≤ pv ∧ pv < b) :
  Calls Tryz.prog 135 #[d, (N6 a), (N6 b), (N6 pv)] w (Ret fun v w' => ∃ (ys : List (Int)) (m : Nat), v = (N6 m) ∧ Row w' B_ 21 1 encI32 d ys ∧ (Sw a b s ys) ∧ (a < m ∧ m ≤ b) ∧ (Eqp ys a b m (m - 1)) ∧ (el ys a = el s pv) ∧ Ch (fun k => Value.ownBlock d = some k) w w') := by
 refine wG 84 func135 rfl ?_
 have r := Below.refl B_ w
 have q : B_ ≤ (World.heap w).size := hs0
 have u := Ch.refl (fun k => Value.ownBlock d = some k) w
 have t : ∀ g, Value.ownBlock d = some g → (World.heap w).size ≤ g ∨ (fun k => Value.ownBlock d = some k) g := fun g h => .inr h
 refine wR (zI (nW (xE 13 16 zk zk zk ?_)))
 intro w1 de
 replace r := r.trans (de.mono q)
 replace q := Nat.le_trans q (de.size)
 refine ⟨fun w => (Rd w encI32 d s), ?_⟩
 replace c := c.below de
 refine mp 0 rfl d (.inr c.rd) zg (hq := (zA zE)) (mp 1 rfl (N6 a) (.inr c.rd) zg (hq := (zA zE)) (mp 2 rfl d (.inr c.rd) zg (hq := (zA zE)) (mp 3 rfl (N6 pv) (.inr c.rd) zg (hq := (zA zE)) (mp 4 rfl d (.inr c.rd) zg (hq := (zA zE)) (mp 5 rfl (N6 pv) (.inr c.rd) zg (hq := (zA zE)) ?_)))))
 have p := zU s pv zo; obtain ⟨x3, du⟩ := p
 have p := (c.rd).at (k := 1) zj du; obtain ⟨g5, ci, ev, hi⟩ := p
 refine mp 6 rfl (pt g5 (ci + pv * 1)) (.inr c.rd) (zX (k := .i64) d pv _ g5 ci yN ev zo zk zk) (hq := (zA zE)) (mt 7 [7, 12, 13, 14, 15] rfl (I3 x3) c.rd (yM g5 (ci + pv * 1) (I3 x3) zk zf (fun w2 h2 => Rd.later (k := 1) h2 zj ev du 0 _ rfl)) (hq := (zA zE)) (mp 8 rfl d (.inr c.rd) zg (hq := (zA zE)) (mp 9 rfl (N6 a) (.inr c.rd) zg (hq := (zA zE)) ?_)))
 have p := zU s a zo; obtain ⟨x9, ap⟩ := p
 have p := (c.rd).at (k := 1) zj ap; obtain ⟨d6, bw, dh, gh⟩ := p
 refine mp 10 rfl (pt d6 (bw + a * 1)) (.inr c.rd) (zX (k := .i64) d a _ d6 bw yN dh zo zk zk) (hq := (zA zE)) (mt 11 [11, 12, 13, 14, 15] rfl (I3 x9) c.rd (yM d6 (bw + a * 1) (I3 x9) zk zf (fun w2 h2 => Rd.later (k := 1) h2 zj dh ap 0 _ rfl)) (hq := (zA zE)) ?_)
 have p := (c.rd).at (k := 1) zj ap; obtain ⟨d8, br, dn, ga⟩ := p
 refine mp 12 rfl (pt d8 (br + a * 1)) (.inr c.rd) (zX (k := .i64) d a _ d8 br yN dn zo zk zk) (hq := (zA zE)) (yI 13 zk (yX 13 rfl ?_ rfl))
 refine yG a 0 d8 br x9 x3 (I3 x3) c zj ap dn zk zk rfl zk zk rfl ?_
 intro g8 ez ck
 replace r := r.tg q ck c
 replace q := Nat.le_trans q (ck.size)
 replace c := ez
 have gi : (List.set s a x3)[a]? = some x3 := yL ap
 refine zS ?_
 refine ⟨rfl, .inl zk, ?_⟩
 have p := zU (List.set s a x3) pv (by (simp only [yH, List.length_set] at *; omega)); obtain ⟨fk, cx⟩ := p
 have p := (c.rd).at (k := 1) zj cx; obtain ⟨dq, bg, di, g1⟩ := p
 refine mp 14 rfl (pt dq (bg + pv * 1)) (.inl zk) (zX (k := .i64) d pv _ dq bg yN di (by (simp only [yH, List.length_set] at *; omega)) zk zk) (hq := (zA zE)) (yI 15 zk (yX 15 rfl ?_ rfl))
 refine yG pv 0 dq bg fk x9 (I3 x9) c zj cx di zk zk rfl zk zk rfl ?_
 intro g9 en c4
 replace r := r.tg q c4 c
 replace q := Nat.le_trans q (c4.size)
 replace c := en
 have g2 : (List.set (List.set s a x3) pv x9)[pv]? = some x9 := yL cx
 have eS := xG ap du
 replace c := c.cast eS; clear eS
 refine zS ?_
 refine ⟨rfl, .inl zk, yW zk (zD (wR (zH (zad a 1 (zH (zsb b 1 (zI (zI (nW (zY ?_))))))))))⟩
 replace u := ((u.trans2 (Ch.of_below de) (fun _ h => h.elim)).trans2 (Ch.of_grown ck) (fun k e => t k e)).trans2 (Ch.of_grown c4) (fun k e => t k e)
 refine xD (fun m s0 w0 => ∃ (i : Nat) (j : Nat) (ys : List Int), (m = j + 1 - i) ∧ (s0.ds = []) ∧ ([0, 1, 8, 9, 10].map s0.f = [d, (N6 a), (I6 0), (N6 i), (N6 j)]) ∧ (Row w0 B_ 21 1 encI32 d ys) ∧ (Below B_ w w0) ∧ (Ch (fun k => Value.ownBlock d = some k) w w0) ∧ (B_ ≤ w0.heap.size) ∧ (a < i ∧ i ≤ j + 1 ∧ j < b) ∧ (ys.length = s.length) ∧ (Sw a b s ys) ∧ (Eqp ys a b i j) ∧ (el ys a = el s pv)) _ ⟨(a + 1), (b - 1), (swp s a pv), rfl, zk, zk, c, r, u, q, zo, (yH _ _ _), (.swap _ _ .refl zo zo zo), Eqp.start, (piv_start zo zo)⟩ ?_
 rintro hk hg g4 ⟨i, j, ys, hm, z, bp, c, r, u, q, i1, i3, i4, i5, i6⟩
 refine yU bp (zY (yA (zY (xD (fun m s0 w0 => ∃ (n : Nat), (m = j + 1 - n) ∧ (s0.ds = []) ∧ ([0, 1, 8, 10, 9].map s0.f = [d, (N6 a), (I6 0), (N6 j), (N6 n)]) ∧ (Row w0 B_ 21 1 encI32 d ys) ∧ (Below B_ w w0) ∧ (Ch (fun k => Value.ownBlock d = some k) w w0) ∧ (B_ ≤ w0.heap.size) ∧ (a < n ∧ n ≤ j + 1 ∧ i ≤ n) ∧ (Eqp ys a b n j)) _ ⟨i, rfl, z, zk, c, r, u, q, zo, i5⟩ ?_))))
 rintro ho hj he ⟨n, hm, z, bp, c, r, u, q, q1, q5⟩
 refine yU bp (yA (yA (xJ zk zk (yE (yE (Lq_cmp .i64 ((n : Nat) : Int) ((j : Nat) : Int) (n ≤ j) rfl (cmpN_le n j) zk zk ?_ ?_))))))
 ·intro fb
  replace fb : n ≤ j := by omega
  refine yE (qw (yE (qw (yE (qw ?_)))))
  have p := zU ys a zo; obtain ⟨c0, cs⟩ := p
  have p := (c.rd).at (k := 1) zj cs
  obtain ⟨ep, cu, ef, ee⟩ := p
  refine yJ (k := .i64) d a _ ep cu yN ef zo zk zk (qw (yQ ep (cu + a * 1) (I3 c0) zk zf (ee 0 _ rfl) (qw (yE (qw (yE (qw ?_)))))))
  have p := zU ys n zo; obtain ⟨cr, da⟩ := p
  have p := (c.rd).at (k := 1) zj da
  obtain ⟨eu, db, eg, ej⟩ := p
  refine yJ (k := .i64) d n _ eu db yN eg zo zk zk (qw (yQ eu (db + n * 1) (I3 cr) zk zf (ej 0 _ rfl) (qw (xS 134 [(I3 c0), (I3 cr)] (.bool (decide (c0 < cr))) zg (fun wq hbq => wJ c0 cr wq ) (yY (decide (c0 < cr)) ?_ ?_)))))
  ·intro fr
   have f3 := el_lt cs da fr
   refine qw (xU true zk (qT (yS ?_)))
   intro hl b3
   replace r := r.trans (b3.mono q)
   replace q := Nat.le_trans q (b3.size)
   refine zD (zF (yR (zL (zL (yD (zD (yA (zY ?_))))))))
   replace u := u.trans2 (Ch.of_below b3) (fun _ h => h.elim)
   replace c := c.below b3
   refine xD (fun m s0 w0 => ∃ (o : Nat), (m = o + 1 - n) ∧ (s0.ds = []) ∧ ([0, 1, 8, 9, 10].map s0.f = [d, (N6 a), (I6 0), (N6 n), (N6 o)]) ∧ (Row w0 B_ 21 1 encI32 d ys) ∧ (Below B_ w w0) ∧ (Ch (fun k => Value.ownBlock d = some k) w w0) ∧ (B_ ≤ w0.heap.size) ∧ (n ≤ o + 1 ∧ o < b ∧ o ≤ j) ∧ (Eqp ys a b n o)) _ ⟨j, rfl, z, zk, c, r, u, q, zo, q5⟩ ?_
   rintro g7 ht hp ⟨o, hm, z, bp, c, r, u, q, r1, r5⟩
   refine yU bp (yA (yA (xJ zk zk (yE (yE (Lq_cmp .i64 ((n : Nat) : Int) ((o : Nat) : Int) (n ≤ o) rfl (cmpN_le n o) zk zk ?_ ?_))))))
   ·intro fn
    replace fn : n ≤ o := by omega
    refine yE (qw (yE (qw (yE (qw ?_)))))
    have p := zU ys a zo; obtain ⟨ca, c9⟩ := p
    have p := (c.rd).at (k := 1) zj c9
    obtain ⟨ew, c1, e1, et⟩ := p
    refine yJ (k := .i64) d a _ ew c1 yN e1 zo zk zk (qw (yQ ew (c1 + a * 1) (I3 ca) zk zf (et 0 _ rfl) (qw (yE (qw (yE (qw ?_)))))))
    have p := zU ys o zo; obtain ⟨ah, ao⟩ := p
    have p := (c.rd).at (k := 1) zj ao
    obtain ⟨ex, cp, e2, e0⟩ := p
    refine yJ (k := .i64) d o _ ex cp yN e2 zo zk zk (qw (yQ ex (cp + o * 1) (I3 ah) zk zf (e0 0 _ rfl) (qw (xS 134 [(I3 ca), (I3 ah)] (.bool (decide (ca < ah))) zg (fun wq hbq => wJ ca ah wq ) (yY (decide (ca < ah)) ?_ ?_)))))
    ·intro fq
     have fw := el_lt c9 ao fq
     refine qT (yS ?_)
     intro hh b4
     replace r := r.trans (b4.mono q)
     replace q := Nat.le_trans q (b4.size)
     refine zD (zT (zP (zD (zY (zV (zH (zsb o 1 (zI (zS (zJ ?_))))))))))
     replace u := u.trans2 (Ch.of_below b4) (fun _ h => h.elim)
     replace c := c.below b4
     exact zD ⟨_, zo, (o - 1), rfl, z, zk, c, r, u, q, zo, r5.down zo zo⟩
    intro f4
    have e7 := el_le c9 ao f4
    refine qT (yS ?_)
    intro ha aq
    replace r := r.trans (aq.mono q)
    replace q := Nat.le_trans q (aq.size)
    refine zD (zF (yR (zL (zL (yD (zD (yA (wR (zH (zH (nGt n o ?_ ?_)))))))))))
    ·intro hu
     refine nQ (zT (yR (zL (zxo (zL (yD (zD (wR (zH (zI (nQ (zW (yF [(N6 n)] (hd := z) ?_)))))))))))))
     replace u := u.trans2 (Ch.of_below aq) (fun _ h => h.elim)
     replace c := c.below aq
     exact ⟨ys, n, rfl, c, (by exact i4), zo, (by exact r5.at zo), (by exact i6), u⟩
    intro hn
    refine nQ (zF (zP (zD (yA (xE 13 16 zk zk zk ?_)))))
    intro hf b1
    replace r := r.trans (b1.mono q)
    replace q := Nat.le_trans q (b1.size)
    refine ⟨fun w => (Rd w encI32 d ys), ?_⟩
    replace c := (c.below aq).below b1
    refine mp 0 rfl d (.inr c.rd) zg (hq := (zA (zB (zA (zB (zA zE)))))) (mp 1 rfl (N6 n) (.inr c.rd) zg (hq := (zA (zB (zA (zB (zA zE)))))) (mp 2 rfl d (.inr c.rd) zg (hq := (zA (zB (zA (zB (zA zE)))))) (mp 3 rfl (N6 o) (.inr c.rd) zg (hq := (zA (zB (zA (zB (zA zE)))))) (mp 4 rfl d (.inr c.rd) zg (hq := (zA (zB (zA (zB (zA zE)))))) (mp 5 rfl (N6 o) (.inr c.rd) zg (hq := (zA (zB (zA (zB (zA zE)))))) ?_)))))
    have p := (c.rd).at (k := 1) zj ao; obtain ⟨dr, bk, dg, f6⟩ := p
    refine mp 6 rfl (pt dr (bk + o * 1)) (.inr c.rd) (zX (k := .i64) d o _ dr bk yN dg zo zk zk) (hq := (zA (zB (zA (zB (zA zE)))))) (mt 7 [7, 12, 13, 14, 15] rfl (I3 ah) c.rd (yM dr (bk + o * 1) (I3 ah) zk zf (fun w2 h2 => Rd.later (k := 1) h2 zj dg ao 0 _ rfl)) (hq := (zA (zB (zA (zB (zA zE)))))) (mp 8 rfl d (.inr c.rd) zg (hq := (zA (zB (zA (zB (zA zE)))))) (mp 9 rfl (N6 n) (.inr c.rd) zg (hq := (zA (zB (zA (zB (zA zE)))))) ?_)))
    have p := zU ys n zo; obtain ⟨bn, an⟩ := p
    have p := (c.rd).at (k := 1) zj an; obtain ⟨d4, bl, dk, f9⟩ := p
    refine mp 10 rfl (pt d4 (bl + n * 1)) (.inr c.rd) (zX (k := .i64) d n _ d4 bl yN dk zo zk zk) (hq := (zA (zB (zA (zB (zA zE)))))) (mt 11 [11, 12, 13, 14, 15] rfl (I3 bn) c.rd (yM d4 (bl + n * 1) (I3 bn) zk zf (fun w2 h2 => Rd.later (k := 1) h2 zj dk an 0 _ rfl)) (hq := (zA (zB (zA (zB (zA zE)))))) ?_)
    have p := (c.rd).at (k := 1) zj an; obtain ⟨c6, a4, cb, fd⟩ := p
    refine mp 12 rfl (pt c6 (a4 + n * 1)) (.inr c.rd) (zX (k := .i64) d n _ c6 a4 yN cb zo zk zk) (hq := (zA (zB (zA (zB (zA zE)))))) (yI 13 zk (yX 13 rfl ?_ rfl))
    refine yG n 0 c6 a4 bn ah (I3 ah) c zj an cb zk zk rfl zk zk rfl ?_
    intro gw dt bs
    replace r := r.tg q bs c
    replace q := Nat.le_trans q (bs.size)
    replace c := dt
    have f1 : (List.set ys n ah)[n]? = some ah := yL an
    refine zS ?_
    refine ⟨rfl, .inl zk, ?_⟩
    have p := zU (List.set ys n ah) o (by (simp only [yH, List.length_set] at *; omega)); obtain ⟨ey, bh⟩ := p
    have p := (c.rd).at (k := 1) zj bh; obtain ⟨cq, au, c5, fj⟩ := p
    refine mp 14 rfl (pt cq (au + o * 1)) (.inl zk) (zX (k := .i64) d o _ cq au yN c5 (by (simp only [yH, List.length_set] at *; omega)) zk zk) (hq := (zA (zB (zA (zB (zA zE)))))) (yI 15 zk (yX 15 rfl ?_ rfl))
    refine yG o 0 cq au ey bn (I3 bn) c zj bh c5 zk zk rfl zk zk rfl ?_
    intro gv dv bm
    replace r := r.tg q bm c
    replace q := Nat.le_trans q (bm.size)
    replace c := dv
    have ff : (List.set (List.set ys n ah) o bn)[o]? = some bn := yL bh
    have eS := xG an ao
    replace c := c.cast eS; clear eS
    refine zS ?_
    refine ⟨rfl, .inl zk, yW zk (zD (wR (zH (zad n 1 (zI (nQ (zV (zH (zsb o 1 (zI (zS (zJ ?_))))))))))))⟩
    have d0 : n < o := by exact lt_of_el (l := ys) (a := a) zo zo zo
    replace u := (((u.trans2 (Ch.of_below aq) (fun _ h => h.elim)).trans2 (Ch.of_below b1) (fun _ h => h.elim)).trans2 (Ch.of_grown bs) (fun k e => t k e)).trans2 (Ch.of_grown bm) (fun k e => t k e)
    refine zD ⟨_, zo, (n + 1), (o - 1), (swp ys n o), rfl, z, zk, c, r, u, q, zo, ?_, ?_, ?_, ?_⟩
    ·rw [yH]; exact i3
    ·exact .swap _ _ i4 zo zo zo
    ·exact r5.swap zo (lt_of_el (l := ys) (a := a) zo zo zo) zo zo zo zo
    exact piv_keep i6 zo zo
   intro ed
   replace ed : o < n := by omega
   refine yE (qs (qs (qs (qs (qs (qs (qs (qs (qs (qF (yS ?_)))))))))))
   intro gr ae
   replace r := r.trans (ae.mono q)
   replace q := Nat.le_trans q (ae.size)
   refine zD (zF (yR (zL (zL (yD (zD (yA (wR (zH (zH (nGt n o ?_ ?_)))))))))))
   ·intro f5
    refine nQ (zT (yR (zL (zxo (zL (yD (zD (wR (zH (zI (nQ (zW (yF [(N6 n)] (hd := z) ?_)))))))))))))
    replace u := u.trans2 (Ch.of_below ae) (fun _ h => h.elim)
    replace c := c.below ae
    exact ⟨ys, n, rfl, c, (by exact i4), zo, (by exact r5.at zo), (by exact i6), u⟩
   intro g0
   refine nQ (zF (zP (zD (yA (xE 13 16 zk zk zk ?_)))))
   intro gz a6
   replace r := r.trans (a6.mono q)
   replace q := Nat.le_trans q (a6.size)
   refine ⟨fun w => (Rd w encI32 d ys), ?_⟩
   replace c := (c.below ae).below a6
   refine mp 0 rfl d (.inr c.rd) zg (hq := (zA (zB (zA (zB (zA zE)))))) (mp 1 rfl (N6 n) (.inr c.rd) zg (hq := (zA (zB (zA (zB (zA zE)))))) (mp 2 rfl d (.inr c.rd) zg (hq := (zA (zB (zA (zB (zA zE)))))) (mp 3 rfl (N6 o) (.inr c.rd) zg (hq := (zA (zB (zA (zB (zA zE)))))) (mp 4 rfl d (.inr c.rd) zg (hq := (zA (zB (zA (zB (zA zE)))))) (mp 5 rfl (N6 o) (.inr c.rd) zg (hq := (zA (zB (zA (zB (zA zE)))))) ?_)))))
   have p := zU ys o zo; obtain ⟨ai, bu⟩ := p
   have p := (c.rd).at (k := 1) zj bu; obtain ⟨dc, av, cw, ft⟩ := p
   refine mp 6 rfl (pt dc (av + o * 1)) (.inr c.rd) (zX (k := .i64) d o _ dc av yN cw zo zk zk) (hq := (zA (zB (zA (zB (zA zE)))))) (mt 7 [7, 12, 13, 14, 15] rfl (I3 ai) c.rd (yM dc (av + o * 1) (I3 ai) zk zf (fun w2 h2 => Rd.later (k := 1) h2 zj cw bu 0 _ rfl)) (hq := (zA (zB (zA (zB (zA zE)))))) (mp 8 rfl d (.inr c.rd) zg (hq := (zA (zB (zA (zB (zA zE)))))) (mp 9 rfl (N6 n) (.inr c.rd) zg (hq := (zA (zB (zA (zB (zA zE)))))) ?_)))
   have p := zU ys n zo; obtain ⟨al, af⟩ := p
   have p := (c.rd).at (k := 1) zj af; obtain ⟨cl, ar, cf, fh⟩ := p
   refine mp 10 rfl (pt cl (ar + n * 1)) (.inr c.rd) (zX (k := .i64) d n _ cl ar yN cf zo zk zk) (hq := (zA (zB (zA (zB (zA zE)))))) (mt 11 [11, 12, 13, 14, 15] rfl (I3 al) c.rd (yM cl (ar + n * 1) (I3 al) zk zf (fun w2 h2 => Rd.later (k := 1) h2 zj cf af 0 _ rfl)) (hq := (zA (zB (zA (zB (zA zE)))))) ?_)
   have p := (c.rd).at (k := 1) zj af; obtain ⟨cv, bc, cj, fi⟩ := p
   refine mp 12 rfl (pt cv (bc + n * 1)) (.inr c.rd) (zX (k := .i64) d n _ cv bc yN cj zo zk zk) (hq := (zA (zB (zA (zB (zA zE)))))) (yI 13 zk (yX 13 rfl ?_ rfl))
   refine yG n 0 cv bc al ai (I3 ai) c zj af cj zk zk rfl zk zk rfl ?_
   intro gx d1 bv
   replace r := r.tg q bv c
   replace q := Nat.le_trans q (bv.size)
   replace c := d1
   have fy : (List.set ys n ai)[n]? = some ai := yL af
   refine zS ?_
   refine ⟨rfl, .inl zk, ?_⟩
   have p := zU (List.set ys n ai) o zo; obtain ⟨ek, bz⟩ := p
   have p := (c.rd).at (k := 1) zj bz; obtain ⟨cg, a8, c8, fe⟩ := p
   refine mp 14 rfl (pt cg (a8 + o * 1)) (.inl zk) (zX (k := .i64) d o _ cg a8 yN c8 zo zk zk) (hq := (zA (zB (zA (zB (zA zE)))))) (yI 15 zk (yX 15 rfl ?_ rfl))
   refine yG o 0 cg a8 ek al (I3 al) c zj bz c8 zk zk rfl zk zk rfl ?_
   intro gm d3 bi
   replace r := r.tg q bi c
   replace q := Nat.le_trans q (bi.size)
   replace c := d3
   have fa : (List.set (List.set ys n ai) o al)[o]? = some al := yL bz
   have eS := xG af bu
   replace c := c.cast eS; clear eS
   refine zS ?_
   refine ⟨rfl, .inl zk, yW zk (zD (wR (zH (zad n 1 (zI (nQ (zV (zH (zsb o 1 (zI (zS (zJ ?_))))))))))))⟩
   have d0 : n < o := by exact lt_of_el (l := ys) (a := a) zo zo zo
   replace u := (((u.trans2 (Ch.of_below ae) (fun _ h => h.elim)).trans2 (Ch.of_below a6) (fun _ h => h.elim)).trans2 (Ch.of_grown bv) (fun k e => t k e)).trans2 (Ch.of_grown bi) (fun k e => t k e)
   refine zD ⟨_, zo, (n + 1), (o - 1), (swp ys n o), rfl, z, zk, c, r, u, q, zo, ?_, ?_, ?_, ?_⟩
   ·rw [yH]; exact i3
   ·exact .swap _ _ i4 zo zo zo
   ·exact r5.swap zo (lt_of_el (l := ys) (a := a) zo zo zo) zo zo zo zo
   exact piv_keep i6 zo zo
  intro es
  have e4 := el_le cs da es
  refine qw (xU false zk (qT (yS ?_)))
  intro gu ax
  replace r := r.trans (ax.mono q)
  replace q := Nat.le_trans q (ax.size)
  refine zD (zT (zP (zD (zY (zV (zH (zad n 1 (zI (zS (zJ ?_))))))))))
  replace u := u.trans2 (Ch.of_below ax) (fun _ h => h.elim)
  replace c := c.below ax
  exact zD ⟨_, zo, (n + 1), rfl, z, zk, c, r, u, q, zo, q5.up zo⟩
 intro em
 replace em : j < n := by omega
 refine yE (qs (qs (qs (qs (qs (qs (qs (qs (qs (qs (qF (yS ?_))))))))))))
 intro gf a0
 replace r := r.trans (a0.mono q)
 replace q := Nat.le_trans q (a0.size)
 refine zD (zF (yR (zL (zL (yD (zD (yA (zY ?_))))))))
 replace u := u.trans2 (Ch.of_below a0) (fun _ h => h.elim)
 replace c := c.below a0
 refine xD (fun m s0 w0 => ∃ (o : Nat), (m = o + 1 - n) ∧ (s0.ds = []) ∧ ([0, 1, 8, 9, 10].map s0.f = [d, (N6 a), (I6 0), (N6 n), (N6 o)]) ∧ (Row w0 B_ 21 1 encI32 d ys) ∧ (Below B_ w w0) ∧ (Ch (fun k => Value.ownBlock d = some k) w w0) ∧ (B_ ≤ w0.heap.size) ∧ (n ≤ o + 1 ∧ o < b ∧ o ≤ j) ∧ (Eqp ys a b n o)) _ ⟨j, rfl, z, zk, c, r, u, q, zo, q5⟩ ?_
 rintro gq gc f7 ⟨o, hm, z, bp, c, r, u, q, r1, r5⟩
 refine yU bp (yA (yA (xJ zk zk (yE (yE (Lq_cmp .i64 ((n : Nat) : Int) ((o : Nat) : Int) (n ≤ o) rfl (cmpN_le n o) zk zk ?_ ?_))))))
 ·intro ei
  replace ei : n ≤ o := by omega
  refine yE (qw (yE (qw (yE (qw ?_)))))
  have p := zU ys a zo; obtain ⟨bd, bx⟩ := p
  have p := (c.rd).at (k := 1) zj bx
  obtain ⟨dp, b5, dw, d9⟩ := p
  refine yJ (k := .i64) d a _ dp b5 yN dw zo zk zk (qw (yQ dp (b5 + a * 1) (I3 bd) zk zf (d9 0 _ rfl) (qw (yE (qw (yE (qw ?_)))))))
  have p := zU ys o zo; obtain ⟨y, ab⟩ := p
  have p := (c.rd).at (k := 1) zj ab
  obtain ⟨dm, b2, d2, d5⟩ := p
  refine yJ (k := .i64) d o _ dm b2 yN d2 zo zk zk (qw (yQ dm (b2 + o * 1) (I3 y) zk zf (d5 0 _ rfl) (qw (xS 134 [(I3 bd), (I3 y)] (.bool (decide (bd < y))) zg (fun wq hbq => wJ bd y wq ) (yY (decide (bd < y)) ?_ ?_)))))
  ·intro er
   have e6 := el_lt bx ab er
   refine qT (yS ?_)
   intro gj a2
   replace r := r.trans (a2.mono q)
   replace q := Nat.le_trans q (a2.size)
   refine zD (zT (zP (zD (zY (zV (zH (zsb o 1 (zI (zS (zJ ?_))))))))))
   replace u := u.trans2 (Ch.of_below a2) (fun _ h => h.elim)
   replace c := c.below a2
   exact zD ⟨_, zo, (o - 1), rfl, z, zk, c, r, u, q, zo, r5.down zo zo⟩
  intro eo
  have e3 := el_le bx ab eo
  refine qT (yS ?_)
  intro gg ad
  replace r := r.trans (ad.mono q)
  replace q := Nat.le_trans q (ad.size)
  refine zD (zF (yR (zL (zL (yD (zD (yA (wR (zH (zH (nGt n o ?_ ?_)))))))))))
  ·intro gd
   refine nQ (zT (yR (zL (zxo (zL (yD (zD (wR (zH (zI (nQ (zW (yF [(N6 n)] (hd := z) ?_)))))))))))))
   replace u := u.trans2 (Ch.of_below ad) (fun _ h => h.elim)
   replace c := c.below ad
   exact ⟨ys, n, rfl, c, (by exact i4), zo, (by exact r5.at zo), (by exact i6), u⟩
  intro gb
  refine nQ (zF (zP (zD (yA (xE 13 16 zk zk zk ?_)))))
  intro gy ay
  replace r := r.trans (ay.mono q)
  replace q := Nat.le_trans q (ay.size)
  refine ⟨fun w => (Rd w encI32 d ys), ?_⟩
  replace c := (c.below ad).below ay
  refine mp 0 rfl d (.inr c.rd) zg (hq := (zA (zB (zA (zB (zA zE)))))) (mp 1 rfl (N6 n) (.inr c.rd) zg (hq := (zA (zB (zA (zB (zA zE)))))) (mp 2 rfl d (.inr c.rd) zg (hq := (zA (zB (zA (zB (zA zE)))))) (mp 3 rfl (N6 o) (.inr c.rd) zg (hq := (zA (zB (zA (zB (zA zE)))))) (mp 4 rfl d (.inr c.rd) zg (hq := (zA (zB (zA (zB (zA zE)))))) (mp 5 rfl (N6 o) (.inr c.rd) zg (hq := (zA (zB (zA (zB (zA zE)))))) ?_)))))
  have p := (c.rd).at (k := 1) zj ab; obtain ⟨ce, a1, ch, fm⟩ := p
  refine mp 6 rfl (pt ce (a1 + o * 1)) (.inr c.rd) (zX (k := .i64) d o _ ce a1 yN ch zo zk zk) (hq := (zA (zB (zA (zB (zA zE)))))) (mt 7 [7, 12, 13, 14, 15] rfl (I3 y) c.rd (yM ce (a1 + o * 1) (I3 y) zk zf (fun w2 h2 => Rd.later (k := 1) h2 zj ch ab 0 _ rfl)) (hq := (zA (zB (zA (zB (zA zE)))))) (mp 8 rfl d (.inr c.rd) zg (hq := (zA (zB (zA (zB (zA zE)))))) (mp 9 rfl (N6 n) (.inr c.rd) zg (hq := (zA (zB (zA (zB (zA zE)))))) ?_)))
  have p := zU ys n zo; obtain ⟨ak, ag⟩ := p
  have p := (c.rd).at (k := 1) zj ag; obtain ⟨ct, aw, cn, fl⟩ := p
  refine mp 10 rfl (pt ct (aw + n * 1)) (.inr c.rd) (zX (k := .i64) d n _ ct aw yN cn zo zk zk) (hq := (zA (zB (zA (zB (zA zE)))))) (mt 11 [11, 12, 13, 14, 15] rfl (I3 ak) c.rd (yM ct (aw + n * 1) (I3 ak) zk zf (fun w2 h2 => Rd.later (k := 1) h2 zj cn ag 0 _ rfl)) (hq := (zA (zB (zA (zB (zA zE)))))) ?_)
  have p := (c.rd).at (k := 1) zj ag; obtain ⟨cy, a9, b9, fc⟩ := p
  refine mp 12 rfl (pt cy (a9 + n * 1)) (.inr c.rd) (zX (k := .i64) d n _ cy a9 yN b9 zo zk zk) (hq := (zA (zB (zA (zB (zA zE)))))) (yI 13 zk (yX 13 rfl ?_ rfl))
  refine yG n 0 cy a9 ak y (I3 y) c zj ag b9 zk zk rfl zk zk rfl ?_
  intro f8 d7 bq
  replace r := r.tg q bq c
  replace q := Nat.le_trans q (bq.size)
  replace c := d7
  have e9 : (List.set ys n y)[n]? = some y := yL ag
  refine zS ?_
  refine ⟨rfl, .inl zk, ?_⟩
  have p := zU (List.set ys n y) o zo; obtain ⟨eh, bo⟩ := p
  have p := (c.rd).at (k := 1) zj bo; obtain ⟨cc, a7, cm, f2⟩ := p
  refine mp 14 rfl (pt cc (a7 + o * 1)) (.inl zk) (zX (k := .i64) d o _ cc a7 yN cm zo zk zk) (hq := (zA (zB (zA (zB (zA zE)))))) (yI 15 zk (yX 15 rfl ?_ rfl))
  refine yG o 0 cc a7 eh ak (I3 ak) c zj bo cm zk zk rfl zk zk rfl ?_
  intro gk dy bt
  replace r := r.tg q bt c
  replace q := Nat.le_trans q (bt.size)
  replace c := dy
  have fg : (List.set (List.set ys n y) o ak)[o]? = some ak := yL bo
  have eS := xG ag ab
  replace c := c.cast eS; clear eS
  refine zS ?_
  refine ⟨rfl, .inl zk, yW zk (zD (wR (zH (zad n 1 (zI (nQ (zV (zH (zsb o 1 (zI (zS (zJ ?_))))))))))))⟩
  have d0 : n < o := by exact lt_of_el (l := ys) (a := a) zo zo zo
  replace u := (((u.trans2 (Ch.of_below ad) (fun _ h => h.elim)).trans2 (Ch.of_below ay) (fun _ h => h.elim)).trans2 (Ch.of_grown bq) (fun k e => t k e)).trans2 (Ch.of_grown bt) (fun k e => t k e)
  refine zD ⟨_, zo, (n + 1), (o - 1), (swp ys n o), rfl, z, zk, c, r, u, q, zo, ?_, ?_, ?_, ?_⟩
  ·rw [yH]; exact i3
  ·exact .swap _ _ i4 zo zo zo
  ·exact r5.swap zo (lt_of_el (l := ys) (a := a) zo zo zo) zo zo zo zo
  exact piv_keep i6 zo zo
 intro eb
 replace eb : o < n := by omega
 refine yE (qs (qs (qs (qs (qs (qs (qs (qs (qs (qF (yS ?_)))))))))))
 intro g3 ac
 replace r := r.trans (ac.mono q)
 replace q := Nat.le_trans q (ac.size)
 refine zD (zF (yR (zL (zL (yD (zD (yA (wR (zH (zH (nGt n o ?_ ?_)))))))))))
 ·intro gp
  refine nQ (zT (yR (zL (zxo (zL (yD (zD (wR (zH (zI (nQ (zW (yF [(N6 n)] (hd := z) ?_)))))))))))))
  replace u := u.trans2 (Ch.of_below ac) (fun _ h => h.elim)
  replace c := c.below ac
  exact ⟨ys, n, rfl, c, (by exact i4), zo, (by exact r5.at zo), (by exact i6), u⟩
 intro gl
 refine nQ (zF (zP (zD (yA (xE 13 16 zk zk zk ?_)))))
 intro gn a3
 replace r := r.trans (a3.mono q)
 replace q := Nat.le_trans q (a3.size)
 refine ⟨fun w => (Rd w encI32 d ys), ?_⟩
 replace c := (c.below ac).below a3
 refine mp 0 rfl d (.inr c.rd) zg (hq := (zA (zB (zA (zB (zA zE)))))) (mp 1 rfl (N6 n) (.inr c.rd) zg (hq := (zA (zB (zA (zB (zA zE)))))) (mp 2 rfl d (.inr c.rd) zg (hq := (zA (zB (zA (zB (zA zE)))))) (mp 3 rfl (N6 o) (.inr c.rd) zg (hq := (zA (zB (zA (zB (zA zE)))))) (mp 4 rfl d (.inr c.rd) zg (hq := (zA (zB (zA (zB (zA zE)))))) (mp 5 rfl (N6 o) (.inr c.rd) zg (hq := (zA (zB (zA (zB (zA zE)))))) ?_)))))
 have p := zU ys o zo; obtain ⟨aj, bj⟩ := p
 have p := (c.rd).at (k := 1) zj bj; obtain ⟨c7, az, cz, fo⟩ := p
 refine mp 6 rfl (pt c7 (az + o * 1)) (.inr c.rd) (zX (k := .i64) d o _ c7 az yN cz zo zk zk) (hq := (zA (zB (zA (zB (zA zE)))))) (mt 7 [7, 12, 13, 14, 15] rfl (I3 aj) c.rd (yM c7 (az + o * 1) (I3 aj) zk zf (fun w2 h2 => Rd.later (k := 1) h2 zj cz bj 0 _ rfl)) (hq := (zA (zB (zA (zB (zA zE)))))) (mp 8 rfl d (.inr c.rd) zg (hq := (zA (zB (zA (zB (zA zE)))))) (mp 9 rfl (N6 n) (.inr c.rd) zg (hq := (zA (zB (zA (zB (zA zE)))))) ?_)))
 have p := zU ys n zo; obtain ⟨am, aa⟩ := p
 have p := (c.rd).at (k := 1) zj aa; obtain ⟨b8, ba, co, fx⟩ := p
 refine mp 10 rfl (pt b8 (ba + n * 1)) (.inr c.rd) (zX (k := .i64) d n _ b8 ba yN co zo zk zk) (hq := (zA (zB (zA (zB (zA zE)))))) (mt 11 [11, 12, 13, 14, 15] rfl (I3 am) c.rd (yM b8 (ba + n * 1) (I3 am) zk zf (fun w2 h2 => Rd.later (k := 1) h2 zj co aa 0 _ rfl)) (hq := (zA (zB (zA (zB (zA zE)))))) ?_)
 have p := (c.rd).at (k := 1) zj aa; obtain ⟨c3, bb, b7, fp⟩ := p
 refine mp 12 rfl (pt c3 (bb + n * 1)) (.inr c.rd) (zX (k := .i64) d n _ c3 bb yN b7 zo zk zk) (hq := (zA (zB (zA (zB (zA zE)))))) (yI 13 zk (yX 13 rfl ?_ rfl))
 refine yG n 0 c3 bb am aj (I3 aj) c zj aa b7 zk zk rfl zk zk rfl ?_
 intro go dx bf
 replace r := r.tg q bf c
 replace q := Nat.le_trans q (bf.size)
 replace c := dx
 have e8 : (List.set ys n aj)[n]? = some aj := yL aa
 refine zS ?_
 refine ⟨rfl, .inl zk, ?_⟩
 have p := zU (List.set ys n aj) o zo; obtain ⟨ec, b0⟩ := p
 have p := (c.rd).at (k := 1) zj b0; obtain ⟨cd, a5, dd, fu⟩ := p
 refine mp 14 rfl (pt cd (a5 + o * 1)) (.inl zk) (zX (k := .i64) d o _ cd a5 yN dd zo zk zk) (hq := (zA (zB (zA (zB (zA zE)))))) (yI 15 zk (yX 15 rfl ?_ rfl))
 refine yG o 0 cd a5 ec am (I3 am) c zj b0 dd zk zk rfl zk zk rfl ?_
 intro gs ea be
 replace r := r.tg q be c
 replace q := Nat.le_trans q (be.size)
 replace c := ea
 have fs : (List.set (List.set ys n aj) o am)[o]? = some am := yL b0
 have eS := xG aa bj
 replace c := c.cast eS; clear eS
 refine zS ?_
 refine ⟨rfl, .inl zk, yW zk (zD (wR (zH (zad n 1 (zI (nQ (zV (zH (zsb o 1 (zI (zS (zJ ?_))))))))))))⟩
 have d0 : n < o := by exact lt_of_el (l := ys) (a := a) zo zo zo
 replace u := (((u.trans2 (Ch.of_below ac) (fun _ h => h.elim)).trans2 (Ch.of_below a3) (fun _ h => h.elim)).trans2 (Ch.of_grown bf) (fun k e => t k e)).trans2 (Ch.of_grown be) (fun k e => t k e)
 refine zD ⟨_, zo, (n + 1), (o - 1), (swp ys n o), rfl, z, zk, c, r, u, q, zo, ?_, ?_, ?_, ?_⟩
 ·rw [yH]; exact i3
 ·exact .swap _ _ i4 zo zo zo
 ·exact r5.swap zo (lt_of_el (l := ys) (a := a) zo zo zo) zo zo zo zo
 exact piv_keep i6 zo zo
end Go.Proofs.YtddnhlobnembaaaGreatDoor
end

/- === Wcsy === -/
section
/- Walks, written by my program walk.py out of the specification csy.py: each theorem says what one function returns and that it leaves memory as it was. -/
namespace Go.Proofs.YtddnhlobnembaaaGreatDoor
open Go Go.RowKit Go.FK _root_.Go.Proofs.Tryz
set_option maxHeartbeats 4000000
set_option maxRecDepth 100000
theorem c_part (B_ : Nat) (d : Value) (s : List (Int)) (a : Nat) (b : Nat) (pv : Nat) (w : World) (hs0 : B_ ≤ w.heap.size) (c : Row w B_ 21 1 encI32 d s) (h1 : a < b) (h2 : b ≤ s.length) (h3 : s.length ≤ 2305843009213693951) (h4 : a ≤ pv ∧ pv < b) :
  Calls Tryz.prog 136 #[d, (N6 a), (N6 b), (N6 pv)] w (Ret fun v w' => ∃ (ys : List (Int)) (m : Nat) (q : Bool), v = (.tuple #[(N6 m), (.bool q)]) ∧ Row w' B_ 21 1 encI32 d ys ∧ (Sw a b s ys) ∧ (a ≤ m ∧ m < b) ∧ (Mid ys a b m) ∧ Ch (fun k => Value.ownBlock d = some k) w w') := by
 refine wG 168 func136 rfl ?_
 have p := Below.refl B_ w
 have n : B_ ≤ (World.heap w).size := hs0
 have r := Ch.refl (fun k => Value.ownBlock d = some k) w
 have u : ∀ g, Value.ownBlock d = some g → (World.heap w).size ≤ g ∨ (fun k => Value.ownBlock d = some k) g := fun g h => .inr h
 have g0 := yH s a pv
 refine wR (zI (zI (nW (xE 13 16 zk zk zk ?_))))
 intro w1 d2
 replace p := p.trans (d2.mono n)
 replace n := Nat.le_trans n (d2.size)
 refine ⟨fun w => (Rd w encI32 d s), ?_⟩
 replace c := c.below d2
 refine mp 0 rfl d (.inr c.rd) zg (hq := (zA zE)) (mp 1 rfl (N6 a) (.inr c.rd) zg (hq := (zA zE)) (mp 2 rfl d (.inr c.rd) zg (hq := (zA zE)) (mp 3 rfl (N6 pv) (.inr c.rd) zg (hq := (zA zE)) (mp 4 rfl d (.inr c.rd) zg (hq := (zA zE)) (mp 5 rfl (N6 pv) (.inr c.rd) zg (hq := (zA zE)) ?_)))))
 have o := zU s pv zo; obtain ⟨x3, ex⟩ := o
 have o := (c.rd).at (k := 1) zj ex; obtain ⟨g5, df, fm, jm⟩ := o
 refine mp 6 rfl (pt g5 (df + pv * 1)) (.inr c.rd) (zX (k := .i64) d pv _ g5 df yN fm zo zk zk) (hq := (zA zE)) (mt 7 [7, 12, 13, 14, 15] rfl (I3 x3) c.rd (yM g5 (df + pv * 1) (I3 x3) zk zf (fun w2 h2 => Rd.later (k := 1) h2 zj fm ex 0 _ rfl)) (hq := (zA zE)) (mp 8 rfl d (.inr c.rd) zg (hq := (zA zE)) (mp 9 rfl (N6 a) (.inr c.rd) zg (hq := (zA zE)) ?_)))
 have o := zU s a zo; obtain ⟨x9, ao⟩ := o
 have o := (c.rd).at (k := 1) zj ao; obtain ⟨ef, b6, d5, hu⟩ := o
 refine mp 10 rfl (pt ef (b6 + a * 1)) (.inr c.rd) (zX (k := .i64) d a _ ef b6 yN d5 zo zk zk) (hq := (zA zE)) (mt 11 [11, 12, 13, 14, 15] rfl (I3 x9) c.rd (yM ef (b6 + a * 1) (I3 x9) zk zf (fun w2 h2 => Rd.later (k := 1) h2 zj d5 ao 0 _ rfl)) (hq := (zA zE)) ?_)
 have o := (c.rd).at (k := 1) zj ao; obtain ⟨em, b0, d6, ht⟩ := o
 refine mp 12 rfl (pt em (b0 + a * 1)) (.inr c.rd) (zX (k := .i64) d a _ em b0 yN d6 zo zk zk) (hq := (zA zE)) (yI 13 zk (yX 13 rfl ?_ rfl))
 refine yG a 0 em b0 x9 x3 (I3 x3) c zj ao d6 zk zk rfl zk zk rfl ?_
 intro ix fe cq
 replace p := p.tg n cq c
 replace n := Nat.le_trans n (cq.size)
 replace c := fe
 have hh : (List.set s a x3)[a]? = some x3 := yL ao
 refine zS ?_
 refine ⟨rfl, .inl zk, ?_⟩
 have o := zU (List.set s a x3) pv (by (simp only [yH, List.length_set] at *; omega)); obtain ⟨gd, dw⟩ := o
 have o := (c.rd).at (k := 1) zj dw; obtain ⟨er, b8, d9, hp⟩ := o
 refine mp 14 rfl (pt er (b8 + pv * 1)) (.inl zk) (zX (k := .i64) d pv _ er b8 yN d9 (by (simp only [yH, List.length_set] at *; omega)) zk zk) (hq := (zA zE)) (yI 15 zk (yX 15 rfl ?_ rfl))
 refine yG pv 0 er b8 gd x9 (I3 x9) c zj dw d9 zk zk rfl zk zk rfl ?_
 intro jj fc dz
 replace p := p.tg n dz c
 replace n := Nat.le_trans n (dz.size)
 replace c := fc
 have hx : (List.set (List.set s a x3) pv x9)[pv]? = some x9 := yL dw
 have eS := xG ao ex
 replace c := c.cast eS; clear eS
 refine zS ?_
 refine ⟨rfl, .inl zk, yW zk (zD (wR (zH (zad a 1 (zH (zsb b 1 (zI (zI (nQ (W_cut (fun s0 w0 => ∃ (ia : Nat), (s0.ds = []) ∧ ([0, 1, 8, 9, 11, 10].map s0.f = [d, (N6 a), (I6 0), (.bool false), (N6 (b - 1)), (N6 ia)]) ∧ (Row w0 B_ 21 1 encI32 d (swp s a pv)) ∧ (Below B_ w w0) ∧ (Ch (fun k => Value.ownBlock d = some k) w w0) ∧ (B_ ≤ w0.heap.size) ∧ (a < ia ∧ ia ≤ b) ∧ (Prt (swp s a pv) a b ia (b - 1)) ∧ (b - 1 < ia ∨ el (swp s a pv) a ≤ el (swp s a pv) ia)) ?_ ?_))))))))))⟩
 ·refine zY ?_
  replace r := ((r.trans2 (Ch.of_below d2) (fun _ h => h.elim)).trans2 (Ch.of_grown cq) (fun k e => u k e)).trans2 (Ch.of_grown dz) (fun k e => u k e)
  refine xD (fun m s0 w0 => ∃ (i1 : Nat), (m = b - i1) ∧ (s0.ds = []) ∧ ([0, 1, 8, 9, 11, 10].map s0.f = [d, (N6 a), (I6 0), (.bool false), (N6 (b - 1)), (N6 i1)]) ∧ (Row w0 B_ 21 1 encI32 d (swp s a pv)) ∧ (Below B_ w w0) ∧ (Ch (fun k => Value.ownBlock d = some k) w w0) ∧ (B_ ≤ w0.heap.size) ∧ (a < i1 ∧ i1 ≤ b) ∧ (Prt (swp s a pv) a b i1 (b - 1))) _ ⟨(a + 1), rfl, zk, zk, c, p, r, n, zo, Prt.start⟩ ?_
  rintro js jg i9 ⟨i1, hm, t, ac, c, p, r, n, u1, u5⟩
  refine yU ac (yA (yA (xJ zk zk (yE (yE (Lq_cmp .i64 ((i1 : Nat) : Int) (((b - 1) : Nat) : Int) (i1 ≤ (b - 1)) rfl (cmpN_le i1 (b - 1)) zk zk ?_ ?_))))))
  ·intro ga
   replace ga : i1 ≤ (b - 1) := by omega
   refine yE (qw (yE (qw (yE (qw ?_)))))
   have o := zU (swp s a pv) i1 zo; obtain ⟨de, c0⟩ := o
   have o := (c.rd).at (k := 1) zj c0
   obtain ⟨fd, du, e1, fq⟩ := o
   refine yJ (k := .i64) d i1 _ fd du yN e1 zo zk zk (qw (yQ fd (du + i1 * 1) (I3 de) zk zf (fq 0 _ rfl) (qw (yE (qw (yE (qw ?_)))))))
   have o := zU (swp s a pv) a zo; obtain ⟨dk, co⟩ := o
   have o := (c.rd).at (k := 1) zj co
   obtain ⟨fo, dn, fp, fs⟩ := o
   refine yJ (k := .i64) d a _ fo dn yN fp zo zk zk (qw (yQ fo (dn + a * 1) (I3 dk) zk zf (fs 0 _ rfl) (qw (xS 134 [(I3 de), (I3 dk)] (.bool (decide (de < dk))) zg (fun wq hbq => wJ de dk wq ) (yY (decide (de < dk)) ?_ ?_)))))
   ·intro f5
    have gb := el_lt c0 co f5
    refine qT (yS ?_)
    intro iv cg
    replace p := p.trans (cg.mono n)
    replace n := Nat.le_trans n (cg.size)
    refine zD (zT (zP (zD (zY (zV (zH (zad i1 1 (zI (zS (zJ ?_))))))))))
    replace r := r.trans2 (Ch.of_below cg) (fun _ h => h.elim)
    replace c := c.below cg
    exact zD ⟨_, zo, (i1 + 1), rfl, t, zk, c, p, r, n, zo, u5.up za⟩
   intro go
   have gh := el_le c0 co go
   refine qT (yS ?_)
   intro jc cc
   replace p := p.trans (cc.mono n)
   replace n := Nat.le_trans n (cc.size)
   refine zD (zF (yR (zL (zL (yD ?_)))))
   replace r := r.trans2 (Ch.of_below cc) (fun _ h => h.elim)
   replace c := c.below cc
   refine zD ⟨i1, t, zk, c, p, r, n, zo, ?_, ?_⟩
   ·exact u5
   exact .inr za
  intro gj
  replace gj : (b - 1) < i1 := by omega
  refine yE (qs (qs (qs (qs (qs (qs (qs (qs (qs (qF (yS ?_)))))))))))
  intro i7 cm
  replace p := p.trans (cm.mono n)
  replace n := Nat.le_trans n (cm.size)
  refine zD (zF (yR (zL (zL (yD ?_)))))
  replace r := r.trans2 (Ch.of_below cm) (fun _ h => h.elim)
  replace c := c.below cm
  refine zD ⟨i1, t, zk, c, p, r, n, zo, ?_, ?_⟩
  ·exact u5
  exact .inl zo
 rintro jd i0 ⟨ia, t, ac, c, p, r, n, u1, u5, u6⟩
 refine yU ac (W_cut (fun s0 w0 => ∃ (z : Nat), (s0.ds = []) ∧ ([0, 1, 8, 9, 10, 11].map s0.f = [d, (N6 a), (I6 0), (.bool false), (N6 ia), (N6 z)]) ∧ (Row w0 B_ 21 1 encI32 d (swp s a pv)) ∧ (Below B_ w w0) ∧ (Ch (fun k => Value.ownBlock d = some k) w w0) ∧ (B_ ≤ w0.heap.size) ∧ (ia ≤ z + 1 ∧ z < b) ∧ (Prt (swp s a pv) a b ia z) ∧ (z < ia ∨ el (swp s a pv) z < el (swp s a pv) a)) ?_ ?_)
 ·refine zY (xD (fun m s0 w0 => ∃ (j1 : Nat), (m = j1 + 1 - ia) ∧ (s0.ds = []) ∧ ([0, 1, 8, 9, 10, 11].map s0.f = [d, (N6 a), (I6 0), (.bool false), (N6 ia), (N6 j1)]) ∧ (Row w0 B_ 21 1 encI32 d (swp s a pv)) ∧ (Below B_ w w0) ∧ (Ch (fun k => Value.ownBlock d = some k) w w0) ∧ (B_ ≤ w0.heap.size) ∧ (ia ≤ j1 + 1 ∧ j1 < b) ∧ (Prt (swp s a pv) a b ia j1)) _ ⟨(b - 1), rfl, t, zk, c, p, r, n, zo, u5⟩ ?_)
  rintro jn jf i6 ⟨j1, hm, t, ac, c, p, r, n, v1, v5⟩
  refine yU ac (yA (yA (xJ zk zk (yE (yE (Lq_cmp .i64 ((ia : Nat) : Int) ((j1 : Nat) : Int) (ia ≤ j1) rfl (cmpN_le ia j1) zk zk ?_ ?_))))))
  ·intro g3
   replace g3 : ia ≤ j1 := by omega
   refine yE (qw (yE (qw (yE (qw ?_)))))
   have o := zU (swp s a pv) j1 zo; obtain ⟨cx, c2⟩ := o
   have o := (c.rd).at (k := 1) zj c2
   obtain ⟨e4, c7, e5, ff⟩ := o
   refine yJ (k := .i64) d j1 _ e4 c7 yN e5 zo zk zk (qw (yQ e4 (c7 + j1 * 1) (I3 cx) zk zf (ff 0 _ rfl) (qw (yE (qw (yE (qw ?_)))))))
   have o := zU (swp s a pv) a zo; obtain ⟨d0, dh⟩ := o
   have o := (c.rd).at (k := 1) zj dh
   obtain ⟨fa, dt, fk, fi⟩ := o
   refine yJ (k := .i64) d a _ fa dt yN fk zo zk zk (qw (yQ fa (dt + a * 1) (I3 d0) zk zf (fi 0 _ rfl) (qw (xS 134 [(I3 cx), (I3 d0)] (.bool (decide (cx < d0))) zg (fun wq hbq => wJ cx d0 wq ) (yY (decide (cx < d0)) ?_ ?_)))))
   ·intro fz
    have gi := el_lt c2 dh fz
    refine qw (xU true zk (qT (yS ?_)))
    intro jq ck
    replace p := p.trans (ck.mono n)
    replace n := Nat.le_trans n (ck.size)
    refine zD (zF (yR (zL (zL (yD ?_)))))
    replace r := r.trans2 (Ch.of_below ck) (fun _ h => h.elim)
    replace c := c.below ck
    refine zD ⟨j1, t, zk, c, p, r, n, zo, ?_, ?_⟩
    ·exact v5
    exact .inr za
   intro gu
   have gg := el_le c2 dh gu
   refine qw (xU false zk (qT (yS ?_)))
   intro iy cn
   replace p := p.trans (cn.mono n)
   replace n := Nat.le_trans n (cn.size)
   refine zD (zT (zP (zD (zY (zV (zH (zsb j1 1 (zI (zS (zJ ?_))))))))))
   replace r := r.trans2 (Ch.of_below cn) (fun _ h => h.elim)
   replace c := c.below cn
   exact zD ⟨_, zo, (j1 - 1), rfl, t, zk, c, p, r, n, zo, v5.down za zo⟩
  intro gk
  replace gk : j1 < ia := by omega
  refine yE (qs (qs (qs (qs (qs (qs (qs (qs (qs (qs (qF (yS ?_))))))))))))
  intro iz cd
  replace p := p.trans (cd.mono n)
  replace n := Nat.le_trans n (cd.size)
  refine zD (zF (yR (zL (zL (yD ?_)))))
  replace r := r.trans2 (Ch.of_below cd) (fun _ h => h.elim)
  replace c := c.below cd
  refine zD ⟨j1, t, zk, c, p, r, n, zo, ?_, ?_⟩
  ·exact v5
  exact .inl zo
 rintro jp jo ⟨z, t, ac, c, p, r, n, v1, v5, v6⟩
 refine yU ac (yA (wR (zH (zH (nGt ia z ?_ ?_)))))
 ·intro i8
  refine nQ (zT (yA (xE 13 16 zk zk zk ?_)))
  intro ji ce
  replace p := p.trans (ce.mono n)
  replace n := Nat.le_trans n (ce.size)
  refine ⟨fun w => (Rd w encI32 d (swp s a pv)), ?_⟩
  replace c := c.below ce
  refine mp 0 rfl d (.inr c.rd) zg (hq := (zA (zA zE))) (mp 1 rfl (N6 z) (.inr c.rd) zg (hq := (zA (zA zE))) (mp 2 rfl d (.inr c.rd) zg (hq := (zA (zA zE))) (mp 3 rfl (N6 a) (.inr c.rd) zg (hq := (zA (zA zE))) (mp 4 rfl d (.inr c.rd) zg (hq := (zA (zA zE))) (mp 5 rfl (N6 a) (.inr c.rd) zg (hq := (zA (zA zE))) ?_)))))
  have o := zU (swp s a pv) a zo; obtain ⟨bm, dg⟩ := o
  have o := (c.rd).at (k := 1) zj dg; obtain ⟨eg, b9, dx, f8⟩ := o
  refine mp 6 rfl (pt eg (b9 + a * 1)) (.inr c.rd) (zX (k := .i64) d a _ eg b9 yN dx zo zk zk) (hq := (zA (zA zE))) (mt 7 [7, 12, 13, 14, 15] rfl (I3 bm) c.rd (yM eg (b9 + a * 1) (I3 bm) zk zf (fun w2 h2 => Rd.later (k := 1) h2 zj dx dg 0 _ rfl)) (hq := (zA (zA zE))) (mp 8 rfl d (.inr c.rd) zg (hq := (zA (zA zE))) (mp 9 rfl (N6 z) (.inr c.rd) zg (hq := (zA (zA zE))) ?_)))
  have o := zU (swp s a pv) z zo; obtain ⟨ak, ag⟩ := o
  have o := (c.rd).at (k := 1) zj ag; obtain ⟨d1, a9, c5, gy⟩ := o
  refine mp 10 rfl (pt d1 (a9 + z * 1)) (.inr c.rd) (zX (k := .i64) d z _ d1 a9 yN c5 zo zk zk) (hq := (zA (zA zE))) (mt 11 [11, 12, 13, 14, 15] rfl (I3 ak) c.rd (yM d1 (a9 + z * 1) (I3 ak) zk zf (fun w2 h2 => Rd.later (k := 1) h2 zj c5 ag 0 _ rfl)) (hq := (zA (zA zE))) ?_)
  have o := (c.rd).at (k := 1) zj ag; obtain ⟨dr, aq, dl, gq⟩ := o
  refine mp 12 rfl (pt dr (aq + z * 1)) (.inr c.rd) (zX (k := .i64) d z _ dr aq yN dl zo zk zk) (hq := (zA (zA zE))) (yI 13 zk (yX 13 rfl ?_ rfl))
  refine yG z 0 dr aq ak bm (I3 bm) c zj ag dl zk zk rfl zk zk rfl ?_
  intro hw es bu
  replace p := p.tg n bu c
  replace n := Nat.le_trans n (bu.size)
  replace c := es
  have gn : (List.set (swp s a pv) z bm)[z]? = some bm := yL ag
  refine zS ?_
  refine ⟨rfl, .inl zk, ?_⟩
  have o := zU (List.set (swp s a pv) z bm) a (by (simp only [yH, List.length_set] at *; omega)); obtain ⟨fg, cb⟩ := o
  have o := (c.rd).at (k := 1) zj cb; obtain ⟨db, ay, dy, f7⟩ := o
  refine mp 14 rfl (pt db (ay + a * 1)) (.inl zk) (zX (k := .i64) d a _ db ay yN dy (by (simp only [yH, List.length_set] at *; omega)) zk zk) (hq := (zA (zA zE))) (yI 15 zk (yX 15 rfl ?_ rfl))
  refine yG a 0 db ay fg ak (I3 ak) c zj cb dy zk zk rfl zk zk rfl ?_
  intro ik eo b1
  replace p := p.tg n b1 c
  replace n := Nat.le_trans n (b1.size)
  replace c := eo
  have gr : (List.set (List.set (swp s a pv) z bm) a ak)[a]? = some ak := yL cb
  have eS := xG ag dg
  replace c := c.cast eS; clear eS
  refine zS ?_
  refine ⟨rfl, .inl zk, yW zk (zD (wR (zH (zI (zI (nQ (zW (zK (yF [(N6 z), (.bool true)] (hd := t) ?_)))))))))⟩
  replace r := ((r.trans2 (Ch.of_below ce) (fun _ h => h.elim)).trans2 (Ch.of_grown bu) (fun k e => u k e)).trans2 (Ch.of_grown b1) (fun k e => u k e)
  exact ⟨(swp (swp s a pv) z a), z, true, rfl, c, (by exact .swap _ _ (.swap _ _ .refl zo zo zo) zo zo (by rw [yH]; omega)), zo, (by exact v5.mid zo zo zo (by rw [yH]; omega)), r⟩
 intro iq
 refine nQ (zF (zP (zD (yA (xE 13 16 zk zk zk ?_)))))
 intro hn be
 replace p := p.trans (be.mono n)
 replace n := Nat.le_trans n (be.size)
 refine ⟨fun w => (Rd w encI32 d (swp s a pv)), ?_⟩
 replace c := c.below be
 refine mp 0 rfl d (.inr c.rd) zg (hq := (zA zE)) (mp 1 rfl (N6 ia) (.inr c.rd) zg (hq := (zA zE)) (mp 2 rfl d (.inr c.rd) zg (hq := (zA zE)) (mp 3 rfl (N6 z) (.inr c.rd) zg (hq := (zA zE)) (mp 4 rfl d (.inr c.rd) zg (hq := (zA zE)) (mp 5 rfl (N6 z) (.inr c.rd) zg (hq := (zA zE)) ?_)))))
 have o := zU (swp s a pv) z zo; obtain ⟨ai, bz⟩ := o
 have o := (c.rd).at (k := 1) zj bz; obtain ⟨dp, ba, dd, gz⟩ := o
 refine mp 6 rfl (pt dp (ba + z * 1)) (.inr c.rd) (zX (k := .i64) d z _ dp ba yN dd zo zk zk) (hq := (zA zE)) (mt 7 [7, 12, 13, 14, 15] rfl (I3 ai) c.rd (yM dp (ba + z * 1) (I3 ai) zk zf (fun w2 h2 => Rd.later (k := 1) h2 zj dd bz 0 _ rfl)) (hq := (zA zE)) (mp 8 rfl d (.inr c.rd) zg (hq := (zA zE)) (mp 9 rfl (N6 ia) (.inr c.rd) zg (hq := (zA zE)) ?_)))
 have o := zU (swp s a pv) ia zo; obtain ⟨an, af⟩ := o
 have o := (c.rd).at (k := 1) zj af; obtain ⟨c8, bg, c4, gp⟩ := o
 refine mp 10 rfl (pt c8 (bg + ia * 1)) (.inr c.rd) (zX (k := .i64) d ia _ c8 bg yN c4 zo zk zk) (hq := (zA zE)) (mt 11 [11, 12, 13, 14, 15] rfl (I3 an) c.rd (yM c8 (bg + ia * 1) (I3 an) zk zf (fun w2 h2 => Rd.later (k := 1) h2 zj c4 af 0 _ rfl)) (hq := (zA zE)) ?_)
 have o := (c.rd).at (k := 1) zj af; obtain ⟨c3, bf, cr, f9⟩ := o
 refine mp 12 rfl (pt c3 (bf + ia * 1)) (.inr c.rd) (zX (k := .i64) d ia _ c3 bf yN cr zo zk zk) (hq := (zA zE)) (yI 13 zk (yX 13 rfl ?_ rfl))
 refine yG ia 0 c3 bf an ai (I3 ai) c zj af cr zk zk rfl zk zk rfl ?_
 intro he ew b2
 replace p := p.tg n b2 c
 replace n := Nat.le_trans n (b2.size)
 replace c := ew
 have f3 : (List.set (swp s a pv) ia ai)[ia]? = some ai := yL af
 refine zS ?_
 refine ⟨rfl, .inl zk, ?_⟩
 have o := zU (List.set (swp s a pv) ia ai) z (by (simp only [yH, List.length_set] at *; omega)); obtain ⟨e9, bp⟩ := o
 have o := (c.rd).at (k := 1) zj bp; obtain ⟨di, av, cs, f0⟩ := o
 refine mp 14 rfl (pt di (av + z * 1)) (.inl zk) (zX (k := .i64) d z _ di av yN cs (by (simp only [yH, List.length_set] at *; omega)) zk zk) (hq := (zA zE)) (yI 15 zk (yX 15 rfl ?_ rfl))
 refine yG z 0 di av e9 an (I3 an) c zj bp cs zk zk rfl zk zk rfl ?_
 intro im ev b3
 replace p := p.tg n b3 c
 replace n := Nat.le_trans n (b3.size)
 replace c := ev
 have gc : (List.set (List.set (swp s a pv) ia ai) z an)[z]? = some an := yL bp
 have eS := xG af bz
 replace c := c.cast eS; clear eS
 refine zS ?_
 refine ⟨rfl, .inl zk, yW zk (zD (wR (zH (zad ia 1 (zI (nR (zH (zsb z 1 (zI (nW (zY ?_)))))))))))⟩
 have ej : ia < z := lt_of_el2 (l := (swp s a pv)) (a := a) zo (u6.resolve_left zo) (v6.resolve_left zo)
 replace r := ((r.trans2 (Ch.of_below be) (fun _ h => h.elim)).trans2 (Ch.of_grown b2) (fun k e => u k e)).trans2 (Ch.of_grown b3) (fun k e => u k e)
 refine xD (fun m s0 w0 => ∃ (i : Nat) (j : Nat) (ys : List Int), (m = j + 1 - i) ∧ (s0.ds = []) ∧ ([0, 1, 8, 9, 10, 11].map s0.f = [d, (N6 a), (I6 0), (.bool false), (N6 i), (N6 j)]) ∧ (Row w0 B_ 21 1 encI32 d ys) ∧ (Below B_ w w0) ∧ (Ch (fun k => Value.ownBlock d = some k) w w0) ∧ (B_ ≤ w0.heap.size) ∧ (a < i ∧ i ≤ j + 1 ∧ j < b) ∧ (ys.length = s.length) ∧ (Sw a b s ys) ∧ (Prt ys a b i j)) _ ⟨(ia + 1), (z - 1), (swp (swp s a pv) ia z), rfl, t, zk, c, p, r, n, zo, ((yH _ _ _).trans g0), (.swap _ _ (.swap _ _ .refl zo zo zo) zo zo (by rw [yH]; omega)), (v5.swap zo ej zo zo (u6.resolve_left zo) (v6.resolve_left zo))⟩ ?_
 rintro ic hi g9 ⟨i, j, ys, hm, t, ac, c, p, r, n, w1, i3, i4, i5⟩
 refine yU ac (zY (W_cut (fun s0 w0 => ∃ (ib : Nat), (s0.ds = []) ∧ ([0, 1, 8, 9, 11, 10].map s0.f = [d, (N6 a), (I6 0), (.bool false), (N6 j), (N6 ib)]) ∧ (Row w0 B_ 21 1 encI32 d ys) ∧ (Below B_ w w0) ∧ (Ch (fun k => Value.ownBlock d = some k) w w0) ∧ (B_ ≤ w0.heap.size) ∧ (a < ib ∧ ib ≤ j + 1 ∧ i ≤ ib) ∧ (Prt ys a b ib j) ∧ (j < ib ∨ el ys a ≤ el ys ib)) ?_ ?_))
 ·refine zY (xD (fun m s0 w0 => ∃ (i2 : Nat), (m = j + 1 - i2) ∧ (s0.ds = []) ∧ ([0, 1, 8, 9, 11, 10].map s0.f = [d, (N6 a), (I6 0), (.bool false), (N6 j), (N6 i2)]) ∧ (Row w0 B_ 21 1 encI32 d ys) ∧ (Below B_ w w0) ∧ (Ch (fun k => Value.ownBlock d = some k) w w0) ∧ (B_ ≤ w0.heap.size) ∧ (a < i2 ∧ i2 ≤ j + 1 ∧ i ≤ i2) ∧ (Prt ys a b i2 j)) _ ⟨i, rfl, t, zk, c, p, r, n, zo, i5⟩ ?_)
  rintro h6 io h8 ⟨i2, hm, t, ac, c, p, r, n, q1, q5⟩
  refine yU ac (yA (yA (xJ zk zk (yE (yE (Lq_cmp .i64 ((i2 : Nat) : Int) ((j : Nat) : Int) (i2 ≤ j) rfl (cmpN_le i2 j) zk zk ?_ ?_))))))
  ·intro e7
   replace e7 : i2 ≤ j := by omega
   refine yE (qw (yE (qw (yE (qw ?_)))))
   have o := zU ys i2 zo; obtain ⟨bj, b7⟩ := o
   have o := (c.rd).at (k := 1) zj b7
   obtain ⟨ea, cj, ee, eh⟩ := o
   refine yJ (k := .i64) d i2 _ ea cj yN ee zo zk zk (qw (yQ ea (cj + i2 * 1) (I3 bj) zk zf (eh 0 _ rfl) (qw (yE (qw (yE (qw ?_)))))))
   have o := zU ys a zo; obtain ⟨bl, b5⟩ := o
   have o := (c.rd).at (k := 1) zj b5
   obtain ⟨d4, ch, eb, ep⟩ := o
   refine yJ (k := .i64) d a _ d4 ch yN eb zo zk zk (qw (yQ d4 (ch + a * 1) (I3 bl) zk zf (ep 0 _ rfl) (qw (xS 134 [(I3 bj), (I3 bl)] (.bool (decide (bj < bl))) zg (fun wq hbq => wJ bj bl wq ) (yY (decide (bj < bl)) ?_ ?_)))))
   ·intro fl
    have ft := el_lt b7 b5 fl
    refine qT (yS ?_)
    intro ij a5
    replace p := p.trans (a5.mono n)
    replace n := Nat.le_trans n (a5.size)
    refine zD (zT (zP (zD (zY (zV (zH (zad i2 1 (zI (zS (zJ ?_))))))))))
    replace r := r.trans2 (Ch.of_below a5) (fun _ h => h.elim)
    replace c := c.below a5
    exact zD ⟨_, zo, (i2 + 1), rfl, t, zk, c, p, r, n, zo, q5.up za⟩
   intro fb
   have fw := el_le b7 b5 fb
   refine qT (yS ?_)
   intro ig aw
   replace p := p.trans (aw.mono n)
   replace n := Nat.le_trans n (aw.size)
   refine zD (zF (yR (zL (zL (yD ?_)))))
   replace r := r.trans2 (Ch.of_below aw) (fun _ h => h.elim)
   replace c := c.below aw
   refine zD ⟨i2, t, zk, c, p, r, n, zo, ?_, ?_⟩
   ·exact q5
   exact .inr za
  intro e2
  replace e2 : j < i2 := by omega
  refine yE (qs (qs (qs (qs (qs (qs (qs (qs (qs (qF (yS ?_)))))))))))
  intro ip au
  replace p := p.trans (au.mono n)
  replace n := Nat.le_trans n (au.size)
  refine zD (zF (yR (zL (zL (yD ?_)))))
  replace r := r.trans2 (Ch.of_below au) (fun _ h => h.elim)
  replace c := c.below au
  refine zD ⟨i2, t, zk, c, p, r, n, zo, ?_, ?_⟩
  ·exact q5
  exact .inl zo
 rintro hf ih ⟨ib, t, ac, c, p, r, n, x1, x5, x6⟩
 refine yU ac (W_cut (fun s0 w0 => ∃ (y : Nat), (s0.ds = []) ∧ ([0, 1, 8, 9, 10, 11].map s0.f = [d, (N6 a), (I6 0), (.bool false), (N6 ib), (N6 y)]) ∧ (Row w0 B_ 21 1 encI32 d ys) ∧ (Below B_ w w0) ∧ (Ch (fun k => Value.ownBlock d = some k) w w0) ∧ (B_ ≤ w0.heap.size) ∧ (ib ≤ y + 1 ∧ y < b ∧ y ≤ j) ∧ (Prt ys a b ib y) ∧ (y < ib ∨ el ys y < el ys a)) ?_ ?_)
 ·refine zY (xD (fun m s0 w0 => ∃ (j2 : Nat), (m = j2 + 1 - ib) ∧ (s0.ds = []) ∧ ([0, 1, 8, 9, 10, 11].map s0.f = [d, (N6 a), (I6 0), (.bool false), (N6 ib), (N6 j2)]) ∧ (Row w0 B_ 21 1 encI32 d ys) ∧ (Below B_ w w0) ∧ (Ch (fun k => Value.ownBlock d = some k) w w0) ∧ (B_ ≤ w0.heap.size) ∧ (ib ≤ j2 + 1 ∧ j2 < b ∧ j2 ≤ j) ∧ (Prt ys a b ib j2)) _ ⟨j, rfl, t, zk, c, p, r, n, zo, x5⟩ ?_)
  rintro ha hy hl ⟨j2, hm, t, ac, c, p, r, n, r1, r5⟩
  refine yU ac (yA (yA (xJ zk zk (yE (yE (Lq_cmp .i64 ((ib : Nat) : Int) ((j2 : Nat) : Int) (ib ≤ j2) rfl (cmpN_le ib j2) zk zk ?_ ?_))))))
  ·intro fj
   replace fj : ib ≤ j2 := by omega
   refine yE (qw (yE (qw (yE (qw ?_)))))
   have o := zU ys j2 zo; obtain ⟨bn, bs⟩ := o
   have o := (c.rd).at (k := 1) zj bs
   obtain ⟨d3, cf, ec, en⟩ := o
   refine yJ (k := .i64) d j2 _ d3 cf yN ec zo zk zk (qw (yQ d3 (cf + j2 * 1) (I3 bn) zk zf (en 0 _ rfl) (qw (yE (qw (yE (qw ?_)))))))
   have o := zU ys a zo; obtain ⟨bk, b4⟩ := o
   have o := (c.rd).at (k := 1) zj b4
   obtain ⟨d7, cl, eu, ez⟩ := o
   refine yJ (k := .i64) d a _ d7 cl yN eu zo zk zk (qw (yQ d7 (cl + a * 1) (I3 bk) zk zf (ez 0 _ rfl) (qw (xS 134 [(I3 bn), (I3 bk)] (.bool (decide (bn < bk))) zg (fun wq hbq => wJ bn bk wq ) (yY (decide (bn < bk)) ?_ ?_)))))
   ·intro fr
    have fv := el_lt bs b4 fr
    refine qw (xU true zk (qT (yS ?_)))
    intro h7 a6
    replace p := p.trans (a6.mono n)
    replace n := Nat.le_trans n (a6.size)
    refine zD (zF (yR (zL (zL (yD ?_)))))
    replace r := r.trans2 (Ch.of_below a6) (fun _ h => h.elim)
    replace c := c.below a6
    refine zD ⟨j2, t, zk, c, p, r, n, zo, ?_, ?_⟩
    ·exact r5
    exact .inr za
   intro e6
   have fx := el_le bs b4 e6
   refine qw (xU false zk (qT (yS ?_)))
   intro hg a1
   replace p := p.trans (a1.mono n)
   replace n := Nat.le_trans n (a1.size)
   refine zD (zT (zP (zD (zY (zV (zH (zsb j2 1 (zI (zS (zJ ?_))))))))))
   replace r := r.trans2 (Ch.of_below a1) (fun _ h => h.elim)
   replace c := c.below a1
   exact zD ⟨_, zo, (j2 - 1), rfl, t, zk, c, p, r, n, zo, r5.down za zo⟩
  intro fn
  replace fn : j2 < ib := by omega
  refine yE (qs (qs (qs (qs (qs (qs (qs (qs (qs (qs (qF (yS ?_))))))))))))
  intro il ax
  replace p := p.trans (ax.mono n)
  replace n := Nat.le_trans n (ax.size)
  refine zD (zF (yR (zL (zL (yD ?_)))))
  replace r := r.trans2 (Ch.of_below ax) (fun _ h => h.elim)
  replace c := c.below ax
  refine zD ⟨j2, t, zk, c, p, r, n, zo, ?_, ?_⟩
  ·exact r5
  exact .inl zo
 rintro g8 h9 ⟨y, t, ac, c, p, r, n, y1, y5, y6⟩
 refine yU ac (yA (wR (zH (zH (nGt ib y ?_ ?_)))))
 ·intro g7
  refine nQ (zT (yR (zL (zxo (zL (yD (zD (yA (xE 13 16 zk zk zk ?_)))))))))
  intro hr ar
  replace p := p.trans (ar.mono n)
  replace n := Nat.le_trans n (ar.size)
  refine ⟨fun w => (Rd w encI32 d ys), ?_⟩
  replace c := c.below ar
  refine mp 0 rfl d (.inr c.rd) zg (hq := (zA zE)) (mp 1 rfl (N6 y) (.inr c.rd) zg (hq := (zA zE)) (mp 2 rfl d (.inr c.rd) zg (hq := (zA zE)) (mp 3 rfl (N6 a) (.inr c.rd) zg (hq := (zA zE)) (mp 4 rfl d (.inr c.rd) zg (hq := (zA zE)) (mp 5 rfl (N6 a) (.inr c.rd) zg (hq := (zA zE)) ?_)))))
  have o := zU ys a zo; obtain ⟨aj, bw⟩ := o
  have o := (c.rd).at (k := 1) zj bw; obtain ⟨cw, a4, dj, g1⟩ := o
  refine mp 6 rfl (pt cw (a4 + a * 1)) (.inr c.rd) (zX (k := .i64) d a _ cw a4 yN dj zo zk zk) (hq := (zA zE)) (mt 7 [7, 12, 13, 14, 15] rfl (I3 aj) c.rd (yM cw (a4 + a * 1) (I3 aj) zk zf (fun w2 h2 => Rd.later (k := 1) h2 zj dj bw 0 _ rfl)) (hq := (zA zE)) (mp 8 rfl d (.inr c.rd) zg (hq := (zA zE)) (mp 9 rfl (N6 y) (.inr c.rd) zg (hq := (zA zE)) ?_)))
  have o := zU ys y zo; obtain ⟨al, ad⟩ := o
  have o := (c.rd).at (k := 1) zj ad; obtain ⟨cu, bc, ct, gx⟩ := o
  refine mp 10 rfl (pt cu (bc + y * 1)) (.inr c.rd) (zX (k := .i64) d y _ cu bc yN ct zo zk zk) (hq := (zA zE)) (mt 11 [11, 12, 13, 14, 15] rfl (I3 al) c.rd (yM cu (bc + y * 1) (I3 al) zk zf (fun w2 h2 => Rd.later (k := 1) h2 zj ct ad 0 _ rfl)) (hq := (zA zE)) ?_)
  have o := (c.rd).at (k := 1) zj ad; obtain ⟨cz, a0, c9, f2⟩ := o
  refine mp 12 rfl (pt cz (a0 + y * 1)) (.inr c.rd) (zX (k := .i64) d y _ cz a0 yN c9 zo zk zk) (hq := (zA zE)) (yI 13 zk (yX 13 rfl ?_ rfl))
  refine yG y 0 cz a0 al aj (I3 aj) c zj ad c9 zk zk rfl zk zk rfl ?_
  intro ii ei bt
  replace p := p.tg n bt c
  replace n := Nat.le_trans n (bt.size)
  replace c := ei
  have f1 : (List.set ys y aj)[y]? = some aj := yL ad
  refine zS ?_
  refine ⟨rfl, .inl zk, ?_⟩
  have o := zU (List.set ys y aj) a (by (simp only [yH, List.length_set] at *; omega)); obtain ⟨e3, bx⟩ := o
  have o := (c.rd).at (k := 1) zj bx; obtain ⟨dm, a3, dc, fy⟩ := o
  refine mp 14 rfl (pt dm (a3 + a * 1)) (.inl zk) (zX (k := .i64) d a _ dm a3 yN dc (by (simp only [yH, List.length_set] at *; omega)) zk zk) (hq := (zA zE)) (yI 15 zk (yX 15 rfl ?_ rfl))
  refine yG a 0 dm a3 e3 al (I3 al) c zj bx dc zk zk rfl zk zk rfl ?_
  intro h5 ey bo
  replace p := p.tg n bo c
  replace n := Nat.le_trans n (bo.size)
  replace c := ey
  have gs : (List.set (List.set ys y aj) a al)[a]? = some al := yL bx
  have eS := xG ad bw
  replace c := c.cast eS; clear eS
  refine zS ?_
  refine ⟨rfl, .inl zk, yW zk (zD (wR (zH (zI (zI (nQ (zW (yF [(N6 y), (.bool false)] (hd := t) ?_))))))))⟩
  replace r := ((r.trans2 (Ch.of_below ar) (fun _ h => h.elim)).trans2 (Ch.of_grown bt) (fun k e => u k e)).trans2 (Ch.of_grown bo) (fun k e => u k e)
  exact ⟨(swp ys y a), y, false, rfl, c, (by exact .swap _ _ i4 zo zo zo), zo, (by exact y5.mid zo zo zo zo), r⟩
 intro ho
 refine nQ (zF (zP (zD (yA (xE 13 16 zk zk zk ?_)))))
 intro hj a8
 replace p := p.trans (a8.mono n)
 replace n := Nat.le_trans n (a8.size)
 refine ⟨fun w => (Rd w encI32 d ys), ?_⟩
 replace c := c.below a8
 refine mp 0 rfl d (.inr c.rd) zg (hq := (zA (zB (zA (zB (zA zE)))))) (mp 1 rfl (N6 ib) (.inr c.rd) zg (hq := (zA (zB (zA (zB (zA zE)))))) (mp 2 rfl d (.inr c.rd) zg (hq := (zA (zB (zA (zB (zA zE)))))) (mp 3 rfl (N6 y) (.inr c.rd) zg (hq := (zA (zB (zA (zB (zA zE)))))) (mp 4 rfl d (.inr c.rd) zg (hq := (zA (zB (zA (zB (zA zE)))))) (mp 5 rfl (N6 y) (.inr c.rd) zg (hq := (zA (zB (zA (zB (zA zE)))))) ?_)))))
 have o := zU ys y zo; obtain ⟨ah, ca⟩ := o
 have o := (c.rd).at (k := 1) zj ca; obtain ⟨cy, a7, c6, gm⟩ := o
 refine mp 6 rfl (pt cy (a7 + y * 1)) (.inr c.rd) (zX (k := .i64) d y _ cy a7 yN c6 zo zk zk) (hq := (zA (zB (zA (zB (zA zE)))))) (mt 7 [7, 12, 13, 14, 15] rfl (I3 ah) c.rd (yM cy (a7 + y * 1) (I3 ah) zk zf (fun w2 h2 => Rd.later (k := 1) h2 zj c6 ca 0 _ rfl)) (hq := (zA (zB (zA (zB (zA zE)))))) (mp 8 rfl d (.inr c.rd) zg (hq := (zA (zB (zA (zB (zA zE)))))) (mp 9 rfl (N6 ib) (.inr c.rd) zg (hq := (zA (zB (zA (zB (zA zE)))))) ?_)))
 have o := zU ys ib zo; obtain ⟨am, ae⟩ := o
 have o := (c.rd).at (k := 1) zj ae; obtain ⟨cp, a2, dv, f6⟩ := o
 refine mp 10 rfl (pt cp (a2 + ib * 1)) (.inr c.rd) (zX (k := .i64) d ib _ cp a2 yN dv zo zk zk) (hq := (zA (zB (zA (zB (zA zE)))))) (mt 11 [11, 12, 13, 14, 15] rfl (I3 am) c.rd (yM cp (a2 + ib * 1) (I3 am) zk zf (fun w2 h2 => Rd.later (k := 1) h2 zj dv ae 0 _ rfl)) (hq := (zA (zB (zA (zB (zA zE)))))) ?_)
 have o := (c.rd).at (k := 1) zj ae; obtain ⟨da, bd, c1, gl⟩ := o
 refine mp 12 rfl (pt da (bd + ib * 1)) (.inr c.rd) (zX (k := .i64) d ib _ da bd yN c1 zo zk zk) (hq := (zA (zB (zA (zB (zA zE)))))) (yI 13 zk (yX 13 rfl ?_ rfl))
 refine yG ib 0 da bd am ah (I3 ah) c zj ae c1 zk zk rfl zk zk rfl ?_
 intro ie ek br
 replace p := p.tg n br c
 replace n := Nat.le_trans n (br.size)
 replace c := ek
 have gw : (List.set ys ib ah)[ib]? = some ah := yL ae
 refine zS ?_
 refine ⟨rfl, .inl zk, ?_⟩
 have o := zU (List.set ys ib ah) y (by (simp only [yH, List.length_set] at *; omega)); obtain ⟨fh, bv⟩ := o
 have o := (c.rd).at (k := 1) zj bv; obtain ⟨dq, az, cv, gf⟩ := o
 refine mp 14 rfl (pt dq (az + y * 1)) (.inl zk) (zX (k := .i64) d y _ dq az yN cv (by (simp only [yH, List.length_set] at *; omega)) zk zk) (hq := (zA (zB (zA (zB (zA zE)))))) (yI 15 zk (yX 15 rfl ?_ rfl))
 refine yG y 0 dq az fh am (I3 am) c zj bv cv zk zk rfl zk zk rfl ?_
 intro id ed bq
 replace p := p.tg n bq c
 replace n := Nat.le_trans n (bq.size)
 replace c := ed
 have gv : (List.set (List.set ys ib ah) y am)[y]? = some am := yL bv
 have eS := xG ae ca
 replace c := c.cast eS; clear eS
 refine zS ?_
 refine ⟨rfl, .inl zk, yW zk (zD (wR (zH (zad ib 1 (zI (nQ (zV (zH (zsb y 1 (zI (zS (zJ ?_))))))))))))⟩
 have ej : ib < y := lt_of_el2 (l := ys) (a := a) zo (x6.resolve_left zo) (y6.resolve_left zo)
 replace r := ((r.trans2 (Ch.of_below a8) (fun _ h => h.elim)).trans2 (Ch.of_grown br) (fun k e => u k e)).trans2 (Ch.of_grown bq) (fun k e => u k e)
 refine zD ⟨_, zo, (ib + 1), (y - 1), (swp ys ib y), rfl, t, zk, c, p, r, n, zo, ?_, ?_, ?_⟩
 ·rw [yH]; exact i3
 ·exact .swap _ _ i4 zo zo zo
 exact y5.swap zo ej zo zo (x6.resolve_left zo) (y6.resolve_left zo)
end Go.Proofs.YtddnhlobnembaaaGreatDoor
end

/- === Wcsz === -/
section
/- Walks, written by my program walk.py out of the specification csz.py: each theorem says what one function returns and that it leaves memory as it was. -/
namespace Go.Proofs.YtddnhlobnembaaaGreatDoor
open Go Go.RowKit Go.FK _root_.Go.Proofs.Tryz
set_option maxHeartbeats 4000000
set_option maxRecDepth 100000
theorem c_partins (B_ : Nat) (d : Value) (s : List (Int)) (a : Nat) (b : Nat) (w : World) (hs0 : B_ ≤ w.heap.size) (c : Row w B_ 21 1 encI32 d s) (h1 : a < b) (h2 : b ≤ s.length) (h3 : s.length ≤ 2305843009213693951) (hlow : Low s a b) :
  Calls Tryz.prog 133 #[d, (N6 a), (N6 b)] w (Ret fun v w' => ∃ (ys : List (Int)) (q : Bool), v = (.bool q) ∧ Row w' B_ 21 1 encI32 d ys ∧ (Sw a b s ys) ∧ (q = true → Srt ys a b) ∧ Ch (fun k => Value.ownBlock d = some k) w w') := by
 refine wG 133 func133 rfl ?_
 have p := Below.refl B_ w
 have l : B_ ≤ (World.heap w).size := hs0
 have y := Ch.refl (fun k => Value.ownBlock d = some k) w
 have u : ∀ g, Value.ownBlock d = some g → (World.heap w).size ≤ g ∨ (fun k => Value.ownBlock d = some k) g := fun g h => .inr h
 refine wR (zI (nR (zH (zad a 1 (zI (nW (wR (zI (nQ (zY (xD (fun m s0 w0 => ∃ (i : Nat) (k : Nat) (ys : List Int), (m = 5 - k) ∧ (s0.ds = []) ∧ ([0, 1, 2, 7, 8].map s0.f = [d, (N6 a), (N6 b), (N6 i), (N6 k)]) ∧ (Row w0 B_ 21 1 encI32 d ys) ∧ (Below B_ w w0) ∧ (Ch (fun k => Value.ownBlock d = some k) w w0) ∧ (B_ ≤ w0.heap.size) ∧ (a < i ∧ i ≤ b ∧ k ≤ 5) ∧ (ys.length = s.length) ∧ (Sw a b s ys) ∧ (Srt ys a i)) _ ⟨(a + 1), 0, s, rfl, zk, zk, c, p, y, l, zo, rfl, .refl, (srt_nil zo)⟩ ?_)))))))))))
 rintro m1 s2 w3 ⟨i, k, ys, hm, r, ah, c, p, y, l, i1, i3, i4, i5⟩
 refine yU ah (yA (wR (zH (nLt k 5 ?_ ?_))))
 ·intro h4
  refine nQ (zT (zP (zD (yA (zY (W_cut (fun s0 w0 => ∃ (n : Nat), (s0.ds = []) ∧ ([0, 1, 2, 8, 7].map s0.f = [d, (N6 a), (N6 b), (N6 k), (N6 n)]) ∧ (Row w0 B_ 21 1 encI32 d ys) ∧ (Below B_ w w0) ∧ (Ch (fun k => Value.ownBlock d = some k) w w0) ∧ (B_ ≤ w0.heap.size) ∧ (a < n ∧ n ≤ b ∧ i ≤ n) ∧ (Srt ys a n) ∧ (n < b → el ys n < el ys (n - 1)) ∧ (Sw a b s ys)) ?_ ?_))))))
  ·refine zY (xD (fun m s0 w0 => ∃ (i2 : Nat), (m = b - i2) ∧ (s0.ds = []) ∧ ([0, 1, 2, 8, 7].map s0.f = [d, (N6 a), (N6 b), (N6 k), (N6 i2)]) ∧ (Row w0 B_ 21 1 encI32 d ys) ∧ (Below B_ w w0) ∧ (Ch (fun k => Value.ownBlock d = some k) w w0) ∧ (B_ ≤ w0.heap.size) ∧ (a < i2 ∧ i2 ≤ b ∧ i ≤ i2) ∧ (Srt ys a i2)) _ ⟨i, rfl, r, zk, c, p, y, l, zo, i5⟩ ?_)
   rintro m5 s6 w7 ⟨i2, hm, r, ah, c, p, y, l, m1, m5⟩
   refine yU ah (yA (yA (xJ zk zk (yE (yE (Lq_cmp .i64 ((i2 : Nat) : Int) ((b : Nat) : Int) (i2 < b) rfl (cmpN_lt i2 b) zk zk ?_ ?_))))))
   ·intro h8
    replace h8 : i2 < b := by omega
    refine yE (qw (yE (qw (yE (qw ?_)))))
    have o := zU ys i2 zo; obtain ⟨x9, b5⟩ := o
    have o := (c.rd).at (k := 1) zj b5
    obtain ⟨c8, b7, c7, c5⟩ := o
    refine yJ (k := .i64) d i2 _ c8 b7 yN c7 zo zk zk (qw (yQ c8 (b7 + i2 * 1) (I3 x9) zk zf (c5 0 _ rfl) (qw (yE (qw (yE (qw (Lq_subN i2 1 zo zo zk zk (qw ?_)))))))))
    have o := zU ys (i2 - 1) zo; obtain ⟨bn, b8⟩ := o
    have o := (c.rd).at (k := 1) zj b8
    obtain ⟨df, b4, dg, c0⟩ := o
    refine yJ (k := .i64) d (i2 - 1) _ df b4 yN dg zo zk zk (qw (yQ df (b4 + (i2 - 1) * 1) (I3 bn) zk zf (c0 0 _ rfl) (qw (xS 134 [(I3 x9), (I3 bn)] (.bool (decide (x9 < bn))) zg (fun wq hbq => wJ x9 bn wq ) (yY (decide (x9 < bn)) ?_ ?_)))))
    ·intro ef
     have d1 := el_lt b5 b8 ef
     refine qw (xU true zk (qT (yS ?_)))
     intro fg bi
     replace p := p.trans (bi.mono l)
     replace l := Nat.le_trans l (bi.size)
     refine zD (zF (yR (zL (zL (yD ?_)))))
     replace y := y.trans2 (Ch.of_below bi) (fun _ h => h.elim)
     replace c := c.below bi
     refine zD ⟨i2, r, zk, c, p, y, l, zo, ?_, ?_, ?_⟩
     ·exact m5
     ·(intro; omega)
     exact i4
    intro d8
    have ed := el_le b5 b8 d8
    refine qw (xU false zk (qT (yS ?_)))
    intro fs bk
    replace p := p.trans (bk.mono l)
    replace l := Nat.le_trans l (bk.size)
    refine zD (zT (zP (zD (zY (zV (zH (zad i2 1 (zI (zS (zJ ?_))))))))))
    replace y := y.trans2 (Ch.of_below bk) (fun _ h => h.elim)
    replace c := c.below bk
    exact zD ⟨_, zo, (i2 + 1), rfl, r, zk, c, p, y, l, zo, m5.snoc zo za⟩
   intro ea
   replace ea : b ≤ i2 := by omega
   refine yE (qs (qs (qs (qs (qs (qs (qs (qs (qs (qs (qs (qF (yS ?_)))))))))))))
   intro fu bd
   replace p := p.trans (bd.mono l)
   replace l := Nat.le_trans l (bd.size)
   refine zD (zF (yR (zL (zL (yD ?_)))))
   replace y := y.trans2 (Ch.of_below bd) (fun _ h => h.elim)
   replace c := c.below bd
   refine zD ⟨i2, r, zk, c, p, y, l, zo, ?_, ?_, ?_⟩
   ·exact m5
   ·(intro; omega)
   exact i4
  rintro fi fq ⟨n, r, ah, c, p, y, l, n1, n5, n6, n4⟩
  refine yU ah (yA (wR (zH (zH (nEq n b ?_ ?_)))))
  ·intro fp
   refine nQ (zT (wR (zI (nQ (zW (zK (zR (zK (zK (zR (zK (yF [(.bool true)] (hd := r) ?_))))))))))))
   exact ⟨ys, true, rfl, c, (by first | exact i4 | exact n4), (by exact (fun _ => n5.at zo)), y⟩
  intro fv
  refine nQ (zF (zP (zD (yA (wR (zH (zH (zsb b a (nLt (b - a) 50 ?_ ?_)))))))))
  ·intro fm
   refine nQ (zT (wR (zI (nQ (zW (zK (zR (zK (zK (zR (zK (yF [(.bool false)] (hd := r) ?_))))))))))))
   exact ⟨ys, false, rfl, c, (by first | exact i4 | exact n4), (by exact (fun h => by cases h)), y⟩
  intro fo
  refine nQ (zF (zP (zD (yA (xE 15 18 zk zk zk ?_)))))
  intro ft ay
  replace p := p.trans (ay.mono l)
  replace l := Nat.le_trans l (ay.size)
  refine ⟨fun w => (Rd w encI32 d ys), ?_⟩
  replace c := c.below ay
  refine mp 0 rfl d (.inr c.rd) zg (hq := (zA (zB (zA (zA (zB (zA zE))))))) (mp 1 rfl (N6 n) (.inr c.rd) zg (hq := (zA (zB (zA (zA (zB (zA zE))))))) (mp 2 rfl d (.inr c.rd) zg (hq := (zA (zB (zA (zA (zB (zA zE))))))) (mp 3 rfl (N6 n) (.inr c.rd) zg (hq := (zA (zB (zA (zA (zB (zA zE))))))) (mp 4 rfl (N6 (n - 1)) (.inr c.rd) (fun w2 _ => RI_subN n 1 zo zo zk zk w2) (hq := (zA (zB (zA (zA (zB (zA zE))))))) (mp 5 rfl d (.inr c.rd) zg (hq := (zA (zB (zA (zA (zB (zA zE))))))) (mp 6 rfl (N6 n) (.inr c.rd) zg (hq := (zA (zB (zA (zA (zB (zA zE))))))) (mp 7 rfl (N6 (n - 1)) (.inr c.rd) (fun w2 _ => RI_subN n 1 zo zo zk zk w2) (hq := (zA (zB (zA (zA (zB (zA zE))))))) ?_)))))))
  have o := zU ys (n - 1) zo; obtain ⟨ax, bu⟩ := o
  have o := (c.rd).at (k := 1) zj bu; obtain ⟨cu, a8, cf, ej⟩ := o
  refine mp 8 rfl (pt cu (a8 + (n - 1) * 1)) (.inr c.rd) (zX (k := .i64) d (n - 1) _ cu a8 yN cf zo zk zk) (hq := (zA (zB (zA (zA (zB (zA zE))))))) (mt 9 [9, 14, 15, 16, 17] rfl (I3 ax) c.rd (yM cu (a8 + (n - 1) * 1) (I3 ax) zk zf (fun w2 h2 => Rd.later (k := 1) h2 zj cf bu 0 _ rfl)) (hq := (zA (zB (zA (zA (zB (zA zE))))))) (mp 10 rfl d (.inr c.rd) zg (hq := (zA (zB (zA (zA (zB (zA zE))))))) (mp 11 rfl (N6 n) (.inr c.rd) zg (hq := (zA (zB (zA (zA (zB (zA zE))))))) ?_)))
  have o := zU ys n zo; obtain ⟨a9, ai⟩ := o
  have o := (c.rd).at (k := 1) zj ai; obtain ⟨cn, a2, ce, et⟩ := o
  refine mp 12 rfl (pt cn (a2 + n * 1)) (.inr c.rd) (zX (k := .i64) d n _ cn a2 yN ce zo zk zk) (hq := (zA (zB (zA (zA (zB (zA zE))))))) (mt 13 [13, 14, 15, 16, 17] rfl (I3 a9) c.rd (yM cn (a2 + n * 1) (I3 a9) zk zf (fun w2 h2 => Rd.later (k := 1) h2 zj ce ai 0 _ rfl)) (hq := (zA (zB (zA (zA (zB (zA zE))))))) ?_)
  have o := (c.rd).at (k := 1) zj ai; obtain ⟨ci, a4, cb, ey⟩ := o
  refine mp 14 rfl (pt ci (a4 + n * 1)) (.inr c.rd) (zX (k := .i64) d n _ ci a4 yN cb zo zk zk) (hq := (zA (zB (zA (zA (zB (zA zE))))))) (yI 15 zk (yX 15 rfl ?_ rfl))
  refine yG n 0 ci a4 a9 ax (I3 ax) c zj ai cb zk zk rfl zk zk rfl ?_
  intro fx de bg
  replace p := p.tg l bg c
  replace l := Nat.le_trans l (bg.size)
  replace c := de
  have fa : (List.set ys n ax)[n]? = some ax := yL ai
  refine zS ?_
  refine ⟨rfl, .inl zk, ?_⟩
  have o := zU (List.set ys n ax) (n - 1) (by (simp only [yH, List.length_set] at *; omega)); obtain ⟨dz, b6⟩ := o
  have o := (c.rd).at (k := 1) zj b6; obtain ⟨ct, a7, cg, e5⟩ := o
  refine mp 16 rfl (pt ct (a7 + (n - 1) * 1)) (.inl zk) (zX (k := .i64) d (n - 1) _ ct a7 yN cg (by (simp only [yH, List.length_set] at *; omega)) zk zk) (hq := (zA (zB (zA (zA (zB (zA zE))))))) (yI 17 zk (yX 17 rfl ?_ rfl))
  refine yG (n - 1) 0 ct a7 dz a9 (I3 a9) c zj b6 cg zk zk rfl zk zk rfl ?_
  intro fc cw be
  replace p := p.tg l be c
  replace l := Nat.le_trans l (be.size)
  replace c := cw
  have eu : (List.set (List.set ys n ax) (n - 1) a9)[(n - 1)]? = some a9 := yL b6
  have eS := xG ai bu
  replace c := c.cast eS; clear eS
  refine zS ?_
  refine ⟨rfl, .inl zk, yW zk (zD (W_cut (fun s0 w0 => ∃ (yb : List Int), (s0.ds = []) ∧ ([0, 1, 2, 7, 8].map s0.f = [d, (N6 a), (N6 b), (N6 n), (N6 k)]) ∧ (Row w0 B_ 21 1 encI32 d yb) ∧ (Below B_ w w0) ∧ (Ch (fun k => Value.ownBlock d = some k) w w0) ∧ (B_ ≤ w0.heap.size) ∧ (yb.length = s.length) ∧ (Sw a b s yb) ∧ (Srt yb a n)) ?_ ?_))⟩
  ·refine wR (zH (zH (zsb n a (nGe (n - a) 2 ?_ ?_))))
   ·intro fl
    refine nQ (zT (wR (zH (zsb n 1 (zI (nQ (zY ?_)))))))
    replace y := ((y.trans2 (Ch.of_below ay) (fun _ h => h.elim)).trans2 (Ch.of_grown bg) (fun k e => u k e)).trans2 (Ch.of_grown be) (fun k e => u k e)
    refine xD (fun m s0 w0 => ∃ (j : Nat) (zs : List Int), (m = j) ∧ (s0.ds = []) ∧ ([0, 1, 2, 7, 8, 9].map s0.f = [d, (N6 a), (N6 b), (N6 n), (N6 k), (N6 j)]) ∧ (Row w0 B_ 21 1 encI32 d zs) ∧ (Below B_ w w0) ∧ (Ch (fun k => Value.ownBlock d = some k) w w0) ∧ (B_ ≤ w0.heap.size) ∧ (a ≤ j ∧ j + 1 ≤ n) ∧ (zs.length = s.length) ∧ (Sw a b s zs) ∧ (Ins zs a (n - 1) j)) _ ⟨(n - 1), (swp ys n (n - 1)), rfl, r, zk, c, p, y, l, zo, ((yH _ _ _).trans i3), (.swap _ _ n4 zo zo zo), (Ins.from n5 zo zo)⟩ ?_
    rintro fe ff fn ⟨j, zs, hm, r, ah, c, p, y, l, p1, p3, p4, p5⟩
    refine yU ah (yA (wR (zH (nGe j 1 ?_ ?_))))
    ·intro fy
     refine nQ (zT (zP (zD (yA (zY (yA (yA (xJ zk zk (yE (yE ?_))))))))))
     have o := zU zs j zo; obtain ⟨af, ac⟩ := o
     have o := (c.rd).at (k := 1) zj ac
     obtain ⟨cx, bt, c2, c6⟩ := o
     refine yJ (k := .i64) d j _ cx bt yN c2 zo zk zk (yQ cx (bt + j * 1) (I3 af) zk zf (c6 0 _ rfl) (yE (yE (Lq_subN j 1 zo zo zk zk ?_))))
     have o := zU zs (j - 1) zo; obtain ⟨ad, aj⟩ := o
     have o := (c.rd).at (k := 1) zj aj
     obtain ⟨da, b2, c9, cy⟩ := o
     refine yJ (k := .i64) d (j - 1) _ da b2 yN c9 zo zk zk (yQ da (b2 + (j - 1) * 1) (I3 ad) zk zf (cy 0 _ rfl) (xS 134 [(I3 af), (I3 ad)] (.bool (decide (af < ad))) zg (fun wq hbq => wJ af ad wq ) (yY (decide (af < ad)) ?_ ?_)))
     ·intro d7
      have ei := el_lt ac aj d7
      refine xU true zk (yS ?_)
      intro fj bl
      replace p := p.trans (bl.mono l)
      replace l := Nat.le_trans l (bl.size)
      refine zD (zF (zP (zD (xE 15 18 zk zk zk ?_))))
      intro fr bf
      replace p := p.trans (bf.mono l)
      replace l := Nat.le_trans l (bf.size)
      refine ⟨fun w => (Rd w encI32 d zs), ?_⟩
      replace c := (c.below bl).below bf
      refine mp 0 rfl d (.inr c.rd) zg (hq := (zB (zA (zA (zB (zA (zB (zA (zA (zB (zA zE))))))))))) (mp 1 rfl (N6 j) (.inr c.rd) zg (hq := (zB (zA (zA (zB (zA (zB (zA (zA (zB (zA zE))))))))))) (mp 2 rfl d (.inr c.rd) zg (hq := (zB (zA (zA (zB (zA (zB (zA (zA (zB (zA zE))))))))))) (mp 3 rfl (N6 j) (.inr c.rd) zg (hq := (zB (zA (zA (zB (zA (zB (zA (zA (zB (zA zE))))))))))) (mp 4 rfl (N6 (j - 1)) (.inr c.rd) (fun w2 _ => RI_subN j 1 zo zo zk zk w2) (hq := (zB (zA (zA (zB (zA (zB (zA (zA (zB (zA zE))))))))))) (mp 5 rfl d (.inr c.rd) zg (hq := (zB (zA (zA (zB (zA (zB (zA (zA (zB (zA zE))))))))))) (mp 6 rfl (N6 j) (.inr c.rd) zg (hq := (zB (zA (zA (zB (zA (zB (zA (zA (zB (zA zE))))))))))) (mp 7 rfl (N6 (j - 1)) (.inr c.rd) (fun w2 _ => RI_subN j 1 zo zo zk zk w2) (hq := (zB (zA (zA (zB (zA (zB (zA (zA (zB (zA zE))))))))))) ?_)))))))
      have o := (c.rd).at (k := 1) zj aj; obtain ⟨cm, a1, cd, eb⟩ := o
      refine mp 8 rfl (pt cm (a1 + (j - 1) * 1)) (.inr c.rd) (zX (k := .i64) d (j - 1) _ cm a1 yN cd zo zk zk) (hq := (zB (zA (zA (zB (zA (zB (zA (zA (zB (zA zE))))))))))) (mt 9 [9, 14, 15, 16, 17] rfl (I3 ad) c.rd (yM cm (a1 + (j - 1) * 1) (I3 ad) zk zf (fun w2 h2 => Rd.later (k := 1) h2 zj cd aj 0 _ rfl)) (hq := (zB (zA (zA (zB (zA (zB (zA (zA (zB (zA zE))))))))))) (mp 10 rfl d (.inr c.rd) zg (hq := (zB (zA (zA (zB (zA (zB (zA (zA (zB (zA zE))))))))))) (mp 11 rfl (N6 j) (.inr c.rd) zg (hq := (zB (zA (zA (zB (zA (zB (zA (zA (zB (zA zE))))))))))) ?_)))
      have o := (c.rd).at (k := 1) zj ac; obtain ⟨bz, av, bm, dy⟩ := o
      refine mp 12 rfl (pt bz (av + j * 1)) (.inr c.rd) (zX (k := .i64) d j _ bz av yN bm zo zk zk) (hq := (zB (zA (zA (zB (zA (zB (zA (zA (zB (zA zE))))))))))) (mt 13 [13, 14, 15, 16, 17] rfl (I3 af) c.rd (yM bz (av + j * 1) (I3 af) zk zf (fun w2 h2 => Rd.later (k := 1) h2 zj bm ac 0 _ rfl)) (hq := (zB (zA (zA (zB (zA (zB (zA (zA (zB (zA zE))))))))))) ?_)
      have o := (c.rd).at (k := 1) zj ac; obtain ⟨b9, aw, br, d9⟩ := o
      refine mp 14 rfl (pt b9 (aw + j * 1)) (.inr c.rd) (zX (k := .i64) d j _ b9 aw yN br zo zk zk) (hq := (zB (zA (zA (zB (zA (zB (zA (zA (zB (zA zE))))))))))) (yI 15 zk (yX 15 rfl ?_ rfl))
      refine yG j 0 b9 aw af ad (I3 ad) c zj ac br zk zk rfl zk zk rfl ?_
      intro fb cp a3
      replace p := p.tg l a3 c
      replace l := Nat.le_trans l (a3.size)
      replace c := cp
      have dx : (List.set zs j ad)[j]? = some ad := yL ac
      refine zS ?_
      refine ⟨rfl, .inl zk, ?_⟩
      have o := zU (List.set zs j ad) (j - 1) (by (simp only [yH, List.length_set] at *; omega)); obtain ⟨dh, a5⟩ := o
      have o := (c.rd).at (k := 1) zj a5; obtain ⟨b0, aq, bs, d3⟩ := o
      refine mp 16 rfl (pt b0 (aq + (j - 1) * 1)) (.inl zk) (zX (k := .i64) d (j - 1) _ b0 aq yN bs (by (simp only [yH, List.length_set] at *; omega)) zk zk) (hq := (zB (zA (zA (zB (zA (zB (zA (zA (zB (zA zE))))))))))) (yI 17 zk (yX 17 rfl ?_ rfl))
      refine yG (j - 1) 0 b0 aq dh af (I3 af) c zj a5 bs zk zk rfl zk zk rfl ?_
      intro e7 ck ba
      replace p := p.tg l ba c
      replace l := Nat.le_trans l (ba.size)
      replace c := ck
      have ec : (List.set (List.set zs j ad) (j - 1) af)[(j - 1)]? = some af := yL a5
      have eS := xG ac aj
      replace c := c.cast eS; clear eS
      refine zS ?_
      refine ⟨rfl, .inl zk, yW zk (zJ (zD (zV (zH (zsb j 1 (zI (zS ?_)))))))⟩
      have fw : a < j := Low.lt (hlow.keep p4) zo zo zo za
      replace y := (((y.trans2 (Ch.of_below bl) (fun _ h => h.elim)).trans2 (Ch.of_below bf) (fun _ h => h.elim)).trans2 (Ch.of_grown a3) (fun k e => u k e)).trans2 (Ch.of_grown ba) (fun k e => u k e)
      refine zD ⟨_, zo, (j - 1), (swp zs j (j - 1)), rfl, r, zk, c, p, y, l, zo, ?_, ?_, ?_⟩
      ·rw [yH]; exact p3
      ·exact .swap _ _ p4 zo zo zo
      exact p5.step zo zo zo za
     intro dc
     have dn := el_le ac aj dc
     refine xU false zk (yS ?_)
     intro e8 au
     replace p := p.trans (au.mono l)
     replace l := Nat.le_trans l (au.size)
     refine zD (zT (yR (zL (zxo (zL (zL (yD ?_)))))))
     replace y := y.trans2 (Ch.of_below au) (fun _ h => h.elim)
     replace c := c.below au
     refine zD ⟨zs, r, zk, c, p, y, l, ?_, ?_, ?_⟩
     ·first | exact p3 | (rw [yH]; exact i3)
     ·exact p4
     exact (p5.done zo (.inr za)).at zo
    intro e1
    refine nQ (zF (yR (zL (zL (yD (zD ⟨zs, r, zk, c, p, y, l, ?_, ?_, ?_⟩))))))
    ·first | exact p3 | (rw [yH]; exact i3)
    ·exact p4
    exact (p5.done zo (.inl zo)).at zo
   intro e0
   refine nQ (zF (zP ?_))
   replace y := ((y.trans2 (Ch.of_below ay) (fun _ h => h.elim)).trans2 (Ch.of_grown bg) (fun k e => u k e)).trans2 (Ch.of_grown be) (fun k e => u k e)
   refine zD ⟨(swp ys n (n - 1)), r, zk, c, p, y, l, ?_, ?_, ?_⟩
   ·first | exact p3 | (rw [yH]; exact i3)
   ·(exact .swap _ _ n4 zo zo zo)
   exact srt_nil zo
  rintro ew e6 ⟨yb, r, ah, c, p, y, l, o3, o4, o5⟩
  refine yU ah (wR (zH (zH (zsb b n (nGe (b - n) 2 ?_ ?_)))))
  ·intro e2
   refine nQ (zT (wR (zH (zad n 1 (zI (nQ (zY (xD (fun m s0 w0 => ∃ (t : Nat) (ts : List Int), (m = b - t) ∧ (s0.ds = []) ∧ ([0, 1, 2, 7, 8, 10].map s0.f = [d, (N6 a), (N6 b), (N6 n), (N6 k), (N6 t)]) ∧ (Row w0 B_ 21 1 encI32 d ts) ∧ (Below B_ w w0) ∧ (Ch (fun k => Value.ownBlock d = some k) w w0) ∧ (B_ ≤ w0.heap.size) ∧ (n < t ∧ t ≤ b) ∧ (ts.length = s.length) ∧ (Sw a b s ts) ∧ (Srt ts a n)) _ ⟨(n + 1), yb, rfl, r, zk, c, p, y, l, zo, o3, o4, o5⟩ ?_))))))))
   rintro es ez er ⟨t, ts, hm, r, ah, c, p, y, l, t1, t3, t4, t5⟩
   refine yU ah (yA (wR (zH (zH (nLt t b ?_ ?_)))))
   ·intro ep
    refine nQ (zT (zP (zD (yA (zY (yA (yA (xJ zk zk (yE (yE ?_))))))))))
    have o := zU ts t zo; obtain ⟨ab, aa⟩ := o
    have o := (c.rd).at (k := 1) zj aa
    obtain ⟨cc, bc, cl, cr⟩ := o
    refine yJ (k := .i64) d t _ cc bc yN cl zo zk zk (yQ cc (bc + t * 1) (I3 ab) zk zf (cr 0 _ rfl) (yE (yE (Lq_subN t 1 zo zo zk zk ?_))))
    have o := zU ts (t - 1) zo; obtain ⟨z, ae⟩ := o
    have o := (c.rd).at (k := 1) zj ae
    obtain ⟨ca, bj, cs, cv⟩ := o
    refine yJ (k := .i64) d (t - 1) _ ca bj yN cs zo zk zk (yQ ca (bj + (t - 1) * 1) (I3 z) zk zf (cv 0 _ rfl) (xS 134 [(I3 ab), (I3 z)] (.bool (decide (ab < z))) zg (fun wq hbq => wJ ab z wq ) (yY (decide (ab < z)) ?_ ?_)))
    ·intro db
     have dv := el_lt aa ae db
     refine xU true zk (yS ?_)
     intro e9 ao
     replace p := p.trans (ao.mono l)
     replace l := Nat.le_trans l (ao.size)
     refine zD (zF (zP (zD (xE 15 18 zk zk zk ?_))))
     intro en am
     replace p := p.trans (am.mono l)
     replace l := Nat.le_trans l (am.size)
     refine ⟨fun w => (Rd w encI32 d ts), ?_⟩
     replace c := (c.below ao).below am
     refine mp 0 rfl d (.inr c.rd) zg (hq := (zB (zA (zA (zB (zB (zA (zA (zB (zA zE)))))))))) (mp 1 rfl (N6 t) (.inr c.rd) zg (hq := (zB (zA (zA (zB (zB (zA (zA (zB (zA zE)))))))))) (mp 2 rfl d (.inr c.rd) zg (hq := (zB (zA (zA (zB (zB (zA (zA (zB (zA zE)))))))))) (mp 3 rfl (N6 t) (.inr c.rd) zg (hq := (zB (zA (zA (zB (zB (zA (zA (zB (zA zE)))))))))) (mp 4 rfl (N6 (t - 1)) (.inr c.rd) (fun w2 _ => RI_subN t 1 zo zo zk zk w2) (hq := (zB (zA (zA (zB (zB (zA (zA (zB (zA zE)))))))))) (mp 5 rfl d (.inr c.rd) zg (hq := (zB (zA (zA (zB (zB (zA (zA (zB (zA zE)))))))))) (mp 6 rfl (N6 t) (.inr c.rd) zg (hq := (zB (zA (zA (zB (zB (zA (zA (zB (zA zE)))))))))) (mp 7 rfl (N6 (t - 1)) (.inr c.rd) (fun w2 _ => RI_subN t 1 zo zo zk zk w2) (hq := (zB (zA (zA (zB (zB (zA (zA (zB (zA zE)))))))))) ?_)))))))
     have o := (c.rd).at (k := 1) zj ae; obtain ⟨bq, ap, bp, d2⟩ := o
     refine mp 8 rfl (pt bq (ap + (t - 1) * 1)) (.inr c.rd) (zX (k := .i64) d (t - 1) _ bq ap yN bp zo zk zk) (hq := (zB (zA (zA (zB (zB (zA (zA (zB (zA zE)))))))))) (mt 9 [9, 14, 15, 16, 17] rfl (I3 z) c.rd (yM bq (ap + (t - 1) * 1) (I3 z) zk zf (fun w2 h2 => Rd.later (k := 1) h2 zj bp ae 0 _ rfl)) (hq := (zB (zA (zA (zB (zB (zA (zA (zB (zA zE)))))))))) (mp 10 rfl d (.inr c.rd) zg (hq := (zB (zA (zA (zB (zB (zA (zA (zB (zA zE)))))))))) (mp 11 rfl (N6 t) (.inr c.rd) zg (hq := (zB (zA (zA (zB (zB (zA (zA (zB (zA zE)))))))))) ?_)))
     have o := (c.rd).at (k := 1) zj aa; obtain ⟨bv, ar, bo, d5⟩ := o
     refine mp 12 rfl (pt bv (ar + t * 1)) (.inr c.rd) (zX (k := .i64) d t _ bv ar yN bo zo zk zk) (hq := (zB (zA (zA (zB (zB (zA (zA (zB (zA zE)))))))))) (mt 13 [13, 14, 15, 16, 17] rfl (I3 ab) c.rd (yM bv (ar + t * 1) (I3 ab) zk zf (fun w2 h2 => Rd.later (k := 1) h2 zj bo aa 0 _ rfl)) (hq := (zB (zA (zA (zB (zB (zA (zA (zB (zA zE)))))))))) ?_)
     have o := (c.rd).at (k := 1) zj aa; obtain ⟨bx, ak, b1, d0⟩ := o
     refine mp 14 rfl (pt bx (ak + t * 1)) (.inr c.rd) (zX (k := .i64) d t _ bx ak yN b1 zo zk zk) (hq := (zB (zA (zA (zB (zB (zA (zA (zB (zA zE)))))))))) (yI 15 zk (yX 15 rfl ?_ rfl))
     refine yG t 0 bx ak ab z (I3 z) c zj aa b1 zk zk rfl zk zk rfl ?_
     intro e4 cq a0
     replace p := p.tg l a0 c
     replace l := Nat.le_trans l (a0.size)
     replace c := cq
     have d6 : (List.set ts t z)[t]? = some z := yL aa
     refine zS ?_
     refine ⟨rfl, .inl zk, ?_⟩
     have o := zU (List.set ts t z) (t - 1) (by (simp only [yH, List.length_set] at *; omega)); obtain ⟨c3, a6⟩ := o
     have o := (c.rd).at (k := 1) zj a6; obtain ⟨b3, al, bw, ee⟩ := o
     refine mp 16 rfl (pt b3 (al + (t - 1) * 1)) (.inl zk) (zX (k := .i64) d (t - 1) _ b3 al yN bw (by (simp only [yH, List.length_set] at *; omega)) zk zk) (hq := (zB (zA (zA (zB (zB (zA (zA (zB (zA zE)))))))))) (yI 17 zk (yX 17 rfl ?_ rfl))
     refine yG (t - 1) 0 b3 al c3 ab (I3 ab) c zj a6 bw zk zk rfl zk zk rfl ?_
     intro ex cj az
     replace p := p.tg l az c
     replace l := Nat.le_trans l (az.size)
     replace c := cj
     have d4 : (List.set (List.set ts t z) (t - 1) ab)[(t - 1)]? = some ab := yL a6
     have eS := xG aa ae
     replace c := c.cast eS; clear eS
     refine zS ?_
     refine ⟨rfl, .inl zk, yW zk (zJ (zD (zV (zH (zad t 1 (zI (zS ?_)))))))⟩
     replace y := (((y.trans2 (Ch.of_below ao) (fun _ h => h.elim)).trans2 (Ch.of_below am) (fun _ h => h.elim)).trans2 (Ch.of_grown a0) (fun k e => u k e)).trans2 (Ch.of_grown az) (fun k e => u k e)
     refine zD ⟨_, zo, (t + 1), (swp ts t (t - 1)), rfl, r, zk, c, p, y, l, zo, ?_, ?_, ?_⟩
     ·rw [yH]; exact t3
     ·exact .swap _ _ t4 zo zo zo
     exact t5.swp_hi zo zo
    intro cz
    have dr := el_le aa ae cz
    refine xU false zk (yS ?_)
    intro em an
    replace p := p.trans (an.mono l)
    replace l := Nat.le_trans l (an.size)
    refine zD (zT (yR (zL (zxo (zL (zL (yD (zJ (zD (zV (zH (zad k 1 (zI (zS ?_))))))))))))))
    replace y := y.trans2 (Ch.of_below an) (fun _ h => h.elim)
    replace c := c.below an
    refine zD ⟨_, zo, n, (k + 1), ts, rfl, r, zk, c, p, y, l, zo, ?_, ?_, ?_⟩
    ·first | exact o3 | exact t3
    ·first | exact o4 | exact t4
    first | exact o5 | exact t5
   intro ev
   refine nQ (zF (yR (zL (zL (yD (zJ (zD (zV (zH (zad k 1 (zI (zS (zD ⟨_, zo, n, (k + 1), ts, rfl, r, zk, c, p, y, l, zo, ?_, ?_, ?_⟩)))))))))))))
   ·first | exact o3 | exact t3
   ·first | exact o4 | exact t4
   first | exact o5 | exact t5
  intro e3
  refine nQ (zF (zP (zJ (zD (zV (zH (zad k 1 (zI (zS (zD ⟨_, zo, n, (k + 1), yb, rfl, r, zk, c, p, y, l, zo, ?_, ?_, ?_⟩))))))))))
  ·first | exact o3 | exact t3
  ·first | exact o4 | exact t4
  first | exact o5 | exact t5
 intro ek
 refine nQ (zF (yR (zL (zL (yD (zD (wR (zI (nQ (zW (yF [(.bool false)] (hd := r) ?_)))))))))))
 exact ⟨ys, false, rfl, c, (by first | exact i4 | exact n4), (by exact (fun h => by cases h)), y⟩
end Go.Proofs.YtddnhlobnembaaaGreatDoor
end

/- === Wcspv === -/
section
/- Walks, written by my program walk.py out of the specification cspv.py: each theorem says what one function returns and that it leaves memory as it was. -/
namespace Go.Proofs.YtddnhlobnembaaaGreatDoor
open Go Go.RowKit Go.FK _root_.Go.Proofs.Tryz
set_option maxHeartbeats 4000000
set_option maxRecDepth 100000
theorem c_order2 (B_ : Nat) (l : Value) (s : List (Int)) (a : Nat) (b : Nat) (c : Nat) (z : Int) (w : World) (hs0 : B_ ≤ w.heap.size) (ab : Row w B_ 21 1 encI32 l s) (d : w.heap[c]? = some (.cells [(I6 z)].toArray 3 (0, 0))) (an : B_ ≤ c) (ha : a < s.length) (hb_ : b < s.length) (hz : 0 ≤ z ∧ z ≤ 1000) :
  Calls Tryz.prog 164 #[l, (N6 a), (N6 b), (pt c 0)] w (Ret fun v w' => ∃ (m1 : Nat) (m2 : Nat) (z2 : Int), v = (.tuple #[(N6 m1), (N6 m2)]) ∧ (m1 = a ∧ m2 = b ∨ m1 = b ∧ m2 = a) ∧ (z ≤ z2 ∧ z2 ≤ z + 1) ∧ w'.heap[c]? = some (.cells [(I6 z2)].toArray 3 (0, 0)) ∧ Ch (fun k => k = c) w w') := by
 refine wG 28 func164 rfl ?_
 have hb := Below.refl B_ w
 have m : B_ ≤ (World.heap w).size := hs0
 have q := Ch.refl (fun k => k = c) w
 have u : (World.heap w).size ≤ c ∨ (fun k => k = c) c := .inr rfl
 refine wR (zI (zI (nW (yA (xJ zk zk (yE (yE ?_)))))))
 have hz := zU s b zo; obtain ⟨r, p⟩ := hz
 have hz := (ab.rd).at (k := 1) zj p
 obtain ⟨g3, n, ad, ai⟩ := hz
 refine yJ (k := .i64) l b _ g3 n yN ad zo zk zk (yQ g3 (n + b * 1) (I3 r) zk zf (ai 0 _ rfl) (yE (yE ?_)))
 have hz := zU s a zo; obtain ⟨t, o⟩ := hz
 have hz := (ab.rd).at (k := 1) zj o
 obtain ⟨g9, j, aa, y⟩ := hz
 refine yJ (k := .i64) l a _ g9 j yN aa zo zk zk (yQ g9 (j + a * 1) (I3 t) zk zf (y 0 _ rfl) (xS 134 [(I3 r), (I3 t)] (.bool (decide (r < t))) zg (fun wq hbq => wJ r t wq ) (yY (decide (r < t)) ?_ ?_)))
 ·intro af
  have ag := el_lt p o af
  refine yS ?_
  intro am g
  have hb := hb.trans (g.mono m)
  replace m := Nat.le_trans m (g.size)
  have d := zC d g
  refine zD (zT (wR (zH (zr (pt c 0) (zO 0 d rfl (xM z 1 (z + 1) rfl zk zk (xC _ zh zh) (zr (pt c 0) (z1 0 (I6 (z + 1)) [(I6 (z + 1))] d ?_))))))))
  intro ao i
  replace m := Nat.le_trans m (Nat.le_of_eq i.size.symm)
  have d := i.here
  refine nR (zH (zH (zI (zI (nQ (zW (zK (yF [(N6 b), (N6 a)] ?_))))))))
  replace q := (q.trans2 (Ch.of_below g) (fun _ h => h.elim)).trans2 (Ch.of_wrote i) (fun k e => e ▸ u)
  exact ⟨b, a, (z + 1), rfl, zo, zo, d, q⟩
 intro ae
 have ah := el_le p o ae
 refine yS ?_
 intro al f
 have hb := hb.trans (f.mono m)
 replace m := Nat.le_trans m (f.size)
 refine zD (zF (zP (zD (wR (zH (zH (zI (zI (nQ (zW (yF [(N6 a), (N6 b)] ?_)))))))))))
 replace q := q.trans2 (Ch.of_below f) (fun _ h => h.elim)
 have d := zC d f
 exact ⟨a, b, z, rfl, zo, zo, d, q⟩
theorem c_median (B_ : Nat) (o : Value) (s : List (Int)) (a : Nat) (b : Nat) (c : Nat) (f : Nat) (z : Int) (w : World) (hs0 : B_ ≤ w.heap.size) (i : Row w B_ 21 1 encI32 o s) (h : w.heap[f]? = some (.cells [(I6 z)].toArray 3 (0, 0))) (r : B_ ≤ f) (ha : a < s.length) (hb_ : b < s.length) (hc_ : c < s.length) (hz : 0 ≤ z ∧ z ≤ 500) :
  Calls Tryz.prog 155 #[o, (N6 a), (N6 b), (N6 c), (pt f 0)] w (Ret fun v w' => ∃ (m1 : Nat) (z2 : Int), v = (N6 m1) ∧ (m1 = a ∨ m1 = b ∨ m1 = c) ∧ (z ≤ z2 ∧ z2 ≤ z + 3) ∧ w'.heap[f]? = some (.cells [(I6 z2)].toArray 3 (0, 0)) ∧ Ch (fun k => k = f) w w') := by
 refine wG 36 func155 rfl ?_
 have t := Below.refl B_ w
 have p : B_ ≤ (World.heap w).size := hs0
 have hc := Ch.refl (fun k => k = f) w
 have l : (World.heap w).size ≤ f ∨ (fun k => k = f) f := .inr rfl
 refine wR (zI (nR (zH (zH (zH (zH (zc (c_order2 0 o s a b f z _ (Nat.zero_le _) i.mono0 h (Nat.zero_le _) zo zo zo) ?_)))))))
 rintro _ w4 ⟨aa, ad, z3, rfl, aq, ap, ai, q⟩
 have t := q.below t p (fun k e => e ▸ r)
 replace p := Nat.le_trans p q.size
 have i := i.ch q (fun g e d => (i.ne h zi) (d ▸ e))
 have h := ai
 refine zH (zr (N6 aa) (zr (N6 ad) (zI (zI (nR (zH (zH (zH (zH (zc (c_order2 0 o s ad c f z3 _ (Nat.zero_le _) i.mono0 h (Nat.zero_le _) zo zo zo) ?_))))))))))
 rintro _ ao ⟨u, y, ag, rfl, al, am, ac, j⟩
 have t := j.below t p (fun k e => e ▸ r)
 replace p := Nat.le_trans p j.size
 have i := i.ch j (fun g e d => (i.ne h zi) (d ▸ e))
 have h := ac
 refine zH (zr (N6 u) (zr (N6 y) (zI (zI (nR (zH (zH (zH (zH (zc (c_order2 0 o s aa u f ag _ (Nat.zero_le _) i.mono0 h (Nat.zero_le _) zo zo zo) ?_))))))))))
 rintro _ ar ⟨ae, n, ah, rfl, aj, ak, ab, m⟩
 have t := m.below t p (fun k e => e ▸ r)
 replace p := Nat.le_trans p m.size
 have h := ab
 refine zH (zr (N6 ae) (zr (N6 n) (zI (zI (nR (zH (zI (nQ (zW (yF [(N6 n)] ?_))))))))))
 replace hc := ((hc.trans2 q (fun k e => e ▸ l)).trans2 j (fun k e => e ▸ l)).trans2 m (fun k e => e ▸ l)
 exact ⟨n, ah, rfl, zo, zo, h, hc⟩
theorem c_medadj (B_ : Nat) (d : Value) (s : List (Int)) (a : Nat) (b : Nat) (z : Int) (w : World) (hs0 : B_ ≤ w.heap.size) (n : Row w B_ 21 1 encI32 d s) (f : w.heap[b]? = some (.cells [(I6 z)].toArray 3 (0, 0))) (m : B_ ≤ b) (ha : 0 < a ∧ a + 1 < s.length) (hl : s.length ≤ 2305843009213693951) (hz : 0 ≤ z ∧ z ≤ 400) :
  Calls Tryz.prog 154 #[d, (N6 a), (pt b 0)] w (Ret fun v w' => ∃ (m1 : Nat) (z2 : Int), v = (N6 m1) ∧ (a - 1 ≤ m1 ∧ m1 ≤ a + 1) ∧ (z ≤ z2 ∧ z2 ≤ z + 3) ∧ w'.heap[b]? = some (.cells [(I6 z2)].toArray 3 (0, 0)) ∧ Ch (fun k => k = b) w w') := by
 refine wG 15 func154 rfl ?_
 have o := Below.refl B_ w
 have i : B_ ≤ (World.heap w).size := hs0
 have j := Ch.refl (fun k => k = b) w
 have h : (World.heap w).size ≤ b ∨ (fun k => k = b) b := .inr rfl
 refine wR (zI (nR (zH (zH (zsb a 1 (zH (zH (zad a 1 (zH (zc (c_median 0 d s (a - 1) a (a + 1) b z _ (Nat.zero_le _) n.mono0 f (Nat.zero_le _) zo zo zo zo) ?_))))))))))
 rintro _ r ⟨g, z2, rfl, q, p, l, c⟩
 have o := c.below o i (fun k e => e ▸ m)
 replace i := Nat.le_trans i c.size
 have f := l
 refine zI (nQ (zW (yF [(N6 g)] ?_)))
 replace j := j.trans2 c (fun k e => e ▸ h)
 exact ⟨g, z2, rfl, zo, zo, f, j⟩
theorem c_pivot (B_ : Nat) (j : Value) (s : List (Int)) (a : Nat) (b : Nat) (w : World) (hs0 : B_ ≤ w.heap.size) (c : Row w B_ 21 1 encI32 j s) (h1 : a + 12 < b) (h2 : b ≤ s.length) (h3 : s.length ≤ 2305843009213693951) :
  Calls Tryz.prog 131 #[j, (N6 a), (N6 b)] w (Ret fun v w' => ∃ (ys : List (Int)) (m : Nat) (h : Int), v = (.tuple #[(N6 m), (I6 h)]) ∧ Row w' B_ 21 1 encI32 j ys ∧ (ys = s) ∧ (a ≤ m ∧ m < b) ∧ Ch (fun k => Value.ownBlock j = some k) w w') := by
 refine wG 57 func131 rfl ?_
 have hb := Below.refl B_ w
 have z : B_ ≤ (World.heap w).size := hs0
 have l := Ch.refl (fun k => Value.ownBlock j = some k) w
 have al : ∀ g, Value.ownBlock j = some g → (World.heap w).size ≤ g ∨ (fun k => Value.ownBlock j = some k) g := fun g h => .inr h
 refine wR (zI (zI (nR (zH (zH (zsb b a (zI (nR (zN [(I6 0)] 3 ?_)))))))))
 intro b1 w2 n
 have aa : B_ ≤ b1 := by rw [n.num]; exact z
 have f : (World.heap w).size ≤ b1 ∨ (fun k => Value.ownBlock j = some k) b1 := .inl (by rw [n.num]; exact l.size)
 have hb := hb.trans (n.below.mono z)
 replace z := Nat.le_trans z (n.below.size)
 have i := n.here
 refine nR (zH (zH (L_quoN (b - a) 4 zo zo zk zk (L_mulN ((b - a) / 4) 1 zo zk zk (zad a (((b - a) / 4) * 1) (zI (nR (zH (zH (L_quoN (b - a) 4 zo zo zk zk (L_mulN ((b - a) / 4) 2 zo zk zk (zad a (((b - a) / 4) * 2) (zI (nR (zH (zH (L_quoN (b - a) 4 zo zo zk zk (L_mulN ((b - a) / 4) 3 zo zk zk (zad a (((b - a) / 4) * 3) (zI (nW (wR (zH (nGe (b - a) 8 ?_ ?_))))))))))))))))))))))))
 ·intro h4
  refine nQ (zT (yA (wR (zH (nGe (b - a) 50 ?_ ?_)))))
  ·intro h5
   have c := c.below n.below
   refine nQ (zT (wR (zH (zH (zc (c_medadj 0 j s (a + (((b - a) / 4) * 1)) b1 0 _ (Nat.zero_le _) c.mono0 i (Nat.zero_le _) zo zo zo) ?_)))))
   replace l := l.trans2 (Ch.of_below n.below) (fun _ h => h.elim)
   rintro _ w8 ⟨am, z7, rfl, aw, a0, ao, q⟩
   have hb := q.below hb z (fun k e => e ▸ aa)
   replace z := Nat.le_trans z q.size
   have c := c.ch q (fun g e d => (c.ne i zi) (d ▸ e))
   have i := ao
   refine zI (nR (zH (zH (zc (c_medadj 0 j s (a + (((b - a) / 4) * 2)) b1 z7 _ (Nat.zero_le _) c.mono0 i (Nat.zero_le _) zo zo zo) ?_))))
   rintro _ a6 ⟨aj, ap, rfl, az, av, ad, u⟩
   have hb := u.below hb z (fun k e => e ▸ aa)
   replace z := Nat.le_trans z u.size
   have c := c.ch u (fun g e d => (c.ne i zi) (d ▸ e))
   have i := ad
   refine zI (nQ (zV (zH (zH (zc (c_medadj 0 j s (a + (((b - a) / 4) * 3)) b1 ap _ (Nat.zero_le _) c.mono0 i (Nat.zero_le _) zo zo zo) ?_)))))
   rintro _ a7 ⟨ak, an, rfl, ay, au, ah, y⟩
   have hb := y.below hb z (fun k e => e ▸ aa)
   replace z := Nat.le_trans z y.size
   have c := c.ch y (fun g e d => (c.ne i zi) (d ▸ e))
   have i := ah
   refine zI (nQ (zV (zH (zH (zH (zH (zc (c_median 0 j s am aj ak b1 an _ (Nat.zero_le _) c.mono0 i (Nat.zero_le _) zo zo zo zo) ?_)))))))
   rintro _ a2 ⟨p, ai, rfl, ax, aq, ae, o⟩
   have hb := o.below hb z (fun k e => e ▸ aa)
   replace z := Nat.le_trans z o.size
   have c := c.ch o (fun g e d => (c.ne i zi) (d ▸ e))
   have i := ae
   refine zI (nR (zO 0 i rfl (nQ (zY (wR (zEq .i64 ai 0 ?_ ?_))))))
   ·intro bd
    refine zI (nQ (zT (wR (zH (zI (zI (nQ (zW (zR (yF [(N6 p), (I6 1)] ?_))))))))))
    replace l := (((l.trans2 q (fun k e => e ▸ f)).trans2 u (fun k e => e ▸ f)).trans2 y (fun k e => e ▸ f)).trans2 o (fun k e => e ▸ f)
    exact ⟨s, p, 1, rfl, c, (by rfl), zo, l⟩
   intro a3
   refine zI (nQ (zF (wR (zEq .i64 ai 12 ?_ ?_))))
   ·intro a8
    refine zI (nQ (zT (wR (zH (zI (zI (nQ (zW (zR (yF [(N6 p), (I6 2)] ?_))))))))))
    replace l := (((l.trans2 q (fun k e => e ▸ f)).trans2 u (fun k e => e ▸ f)).trans2 y (fun k e => e ▸ f)).trans2 o (fun k e => e ▸ f)
    exact ⟨s, p, 2, rfl, c, (by rfl), zo, l⟩
   intro bc
   refine zI (nQ (zF (wR (zH (zI (zI (nQ (zW (zR (yF [(N6 p), (I6 0)] ?_))))))))))
   replace l := (((l.trans2 q (fun k e => e ▸ f)).trans2 u (fun k e => e ▸ f)).trans2 y (fun k e => e ▸ f)).trans2 o (fun k e => e ▸ f)
   exact ⟨s, p, 0, rfl, c, (by rfl), zo, l⟩
  intro a5
  have c := c.below n.below
  refine nQ (zF (zP (zD (zV (zH (zH (zH (zH (zc (c_median 0 j s (a + (((b - a) / 4) * 1)) (a + (((b - a) / 4) * 2)) (a + (((b - a) / 4) * 3)) b1 0 _ (Nat.zero_le _) c.mono0 i (Nat.zero_le _) zo zo zo zo) ?_)))))))))
  replace l := l.trans2 (Ch.of_below n.below) (fun _ h => h.elim)
  rintro _ ba ⟨t, ag, rfl, ar, a1, af, r⟩
  have hb := r.below hb z (fun k e => e ▸ aa)
  replace z := Nat.le_trans z r.size
  have c := c.ch r (fun g e d => (c.ne i zi) (d ▸ e))
  have i := af
  refine zI (nR (zO 0 i rfl (nQ (zY (wR (zEq .i64 ag 0 ?_ ?_))))))
  ·intro bg
   refine zI (nQ (zT (wR (zH (zI (zI (nQ (zW (zR (yF [(N6 t), (I6 1)] ?_))))))))))
   replace l := l.trans2 r (fun k e => e ▸ f)
   exact ⟨s, t, 1, rfl, c, (by rfl), zo, l⟩
  intro bb
  refine zI (nQ (zF (wR (zEq .i64 ag 12 ?_ ?_))))
  ·intro be
   refine zI (nQ (zT (wR (zH (zI (zI (nQ (zW (zR (yF [(N6 t), (I6 2)] ?_))))))))))
   replace l := l.trans2 r (fun k e => e ▸ f)
   exact ⟨s, t, 2, rfl, c, (by rfl), zo, l⟩
  intro a4
  refine zI (nQ (zF (wR (zH (zI (zI (nQ (zW (zR (yF [(N6 t), (I6 0)] ?_))))))))))
  replace l := l.trans2 r (fun k e => e ▸ f)
  exact ⟨s, t, 0, rfl, c, (by rfl), zo, l⟩
 intro bf
 refine nQ (zF (zP (zD (wR (zO 0 i rfl (nQ (zY (wR (zr (.bool true) (zI (nQ (zT (wR (zH (zI (zI (nQ (zW (zR (yF [(N6 (a + (((b - a) / 4) * 2))), (I6 1)] ?_))))))))))))))))))))
 replace l := l.trans2 (Ch.of_below n.below) (fun _ h => h.elim)
 have c := c.below n.below
 exact ⟨s, (a + (((b - a) / 4) * 2)), 1, rfl, c, (by rfl), zo, l⟩
end Go.Proofs.YtddnhlobnembaaaGreatDoor
end

/- === FKbf === -/
section
/- FKbf: numbers of 64 bits without sign of which only the range is wanted: shifts, exclusive or; a mask; a power of two. My own text. -/
namespace Go.FK
open Go Go.RowKit
theorem u64_rng (z : Int) : 0 ≤ IntKind.u64.wrap z ∧ IntKind.u64.wrap z ≤ 18446744073709551615 := by
 have h : IntKind.u64.wrap z = z % 18446744073709551616 := by simp [IntKind.wrap, IntKind.signed, IntKind.bits]
 rw [h]; omega
theorem wrapU (z : Int) (h0 : 0 ≤ z) (h1 : z ≤ 18446744073709551615) : IntKind.u64.wrap z = z := by
 have h : IntKind.u64.wrap z = z % 18446744073709551616 := by simp [IntKind.wrap, IntKind.signed, IntKind.bits]
 rw [h]; omega
section
variable {r : Option Nat} {P : Program} {n : Nat} {Q : Post} {s : Fm} {w : World} {ops : Array Oper} {rest : List Oper}
variable {d : Option Tmp} {ty : TypeId} {pos : String} {af : Array Edge}
theorem L_shlU {t yt : TypeId} {X Y : Operand} {yk : IntKind} (x : Int) (y p : Nat) (hp : 2 ^ y = p) (hy2 : Nat.ble y 64 = true) (hx : s.ev n X = .int .u64 x) (hy : s.ev n Y = .int yk y)
  (h : ∀ z : Int, 0 ≤ z ∧ z ≤ 18446744073709551615 → L r P n ops Q rest (s.put d (.int .u64 z)) w) : L r P n ops Q (⟨d, .binOp .shl t X Y yt, ty, pos, af, none⟩ :: rest) s w :=
 L_shl (k := .u64) x _ y p hp hy2 hx hy rfl (h _ (u64_rng _))
theorem L_shrU {t yt : TypeId} {X Y : Operand} {yk : IntKind} (x : Int) (y p : Nat) (hp : 2 ^ y = p) (hy2 : Nat.ble y 64 = true) (hr : 0 ≤ x ∧ x ≤ 18446744073709551615) (hx : s.ev n X = .int .u64 x) (hy : s.ev n Y = .int yk y)
  (h : ∀ z : Int, 0 ≤ z ∧ z ≤ 18446744073709551615 → L r P n ops Q rest (s.put d (.int .u64 z)) w) : L r P n ops Q (⟨d, .binOp .shr t X Y yt, ty, pos, af, none⟩ :: rest) s w :=
 L_shr (k := .u64) x y p hp hy2 hx hy (h _ ⟨Int.ediv_nonneg hr.1 (Int.natCast_nonneg _), Int.le_trans (Int.ediv_le_self _ hr.1) hr.2⟩)
theorem L_xorU {t yt : TypeId} {X Y : Operand} (x y : Int) (hx : s.ev n X = .int .u64 x) (hy : s.ev n Y = .int .u64 y)
  (h : ∀ z : Int, 0 ≤ z ∧ z ≤ 18446744073709551615 → L r P n ops Q rest (s.put d (.int .u64 z)) w) : L r P n ops Q (⟨d, .binOp .xor t X Y yt, ty, pos, af, none⟩ :: rest) s w :=
 L_bin _ _ (.int .u64 (IntKind.u64.wrap ((BitVec.ofInt 64 x ^^^ BitVec.ofInt 64 y).toNat : Int))) hx hy (xL ..) rfl (h _ (u64_rng _))
theorem L_andU {t yt : TypeId} {X Y : Operand} (x : Int) (b : Nat) (hb : b ≤ 18446744073709551615) (hx : s.ev n X = .int .u64 x) (hy : s.ev n Y = .int .u64 b)
  (h : ∀ z : Nat, z ≤ b → L r P n ops Q rest (s.put d (.int .u64 (z : Int))) w) : L r P n ops Q (⟨d, .binOp .and t X Y yt, ty, pos, af, none⟩ :: rest) s w := by
 have a : BitVec.ofInt 64 (b : Int) = BitVec.ofNat 64 b := by simp
 have c : (BitVec.ofInt 64 x &&& BitVec.ofInt 64 (b : Int)).toNat ≤ b := by
  rw [a, BitVec.toNat_and, BitVec.toNat_ofNat, Nat.mod_eq_of_lt (show b < 2 ^ 64 by omega)]
  exact Nat.and_le_right
 refine L_bin _ _ (.int .u64 (IntKind.u64.wrap ((BitVec.ofInt 64 x &&& BitVec.ofInt 64 (b : Int)).toNat : Int))) hx hy (xL ..) rfl ?_
 rw [wrapU _ (Int.natCast_nonneg _) (by omega)]
 exact h _ c
theorem L_shl1 {t yt : TypeId} {X Y : Operand} {yk : IntKind} (k : Nat) (hk : k ≤ 63) (hx : s.ev n X = .int .u64 1) (hy : s.ev n Y = .int yk k)
  (h : L r P n ops Q rest (s.put d (.int .u64 ((2 ^ k : Nat) : Int))) w) : L r P n ops Q (⟨d, .binOp .shl t X Y yt, ty, pos, af, none⟩ :: rest) s w := by
 refine L_shl 1 _ k (2 ^ k) rfl (by simp; show k ≤ 64; omega) hx hy ?_ h
 have : 2 ^ k ≤ 2 ^ 63 := Nat.pow_le_pow_right (by omega) hk
 rw [Int.one_mul]
 exact wrapU _ (Int.natCast_nonneg _) (by omega)
end
theorem subU (a b : Nat) (h : b ≤ a) (ha : a ≤ 18446744073709551615) : IntKind.u64.wrap (arithZ .sub (a : Int) (b : Int)) = ((a - b : Nat) : Int) := by
 have e : arithZ .sub (a : Int) (b : Int) = ((a - b : Nat) : Int) := by simp only [arithZ]; omega
 rw [e]; exact wrapU _ (Int.natCast_nonneg _) (by omega)
theorem pow_bitLen : ∀ n : Nat, 1 ≤ n → n < 4611686018427387904 → 2 ^ Lib.bitLen n ≤ 2 * n := by
 intro n
 induction n using Nat.strongRecOn with
 | ind n ih =>
  intro a b
  rw [Lib.bitLen_half n (by omega) (by omega), Nat.pow_add, Nat.pow_one]
  by_cases e : n / 2 = 0
  ·have : n = 1 := by omega
   subst this
   decide
  ·have := ih (n / 2) (by omega) (by omega) (by omega)
   omega
theorem bitLen_63 {n : Nat} (h1 : 1 ≤ n) (h2 : n < 4611686018427387904) : Lib.bitLen n ≤ 63 := by
 have a := pow_bitLen n h1 h2
 rcases Nat.lt_or_ge 63 (Lib.bitLen n) with h | h
 ·have : 2 ^ 64 ≤ 2 ^ Lib.bitLen n := Nat.pow_le_pow_right (by omega) h
  omega
 ·exact h
theorem bitAux_le : ∀ f x : Nat, Lib.bitLenAux f x ≤ f
 | 0, _ => Nat.le_refl _
 | f + 1, x => by
  have := bitAux_le f (x / 2)
  unfold Lib.bitLenAux
  split <;> omega
theorem bitLen_le (x : Nat) : Lib.bitLen x ≤ 64 := bitAux_le 64 x
end Go.FK
end

/- === Wcsbp === -/
section
/- Walks, written by my program walk.py out of the specification csbp.py: each theorem says what one function returns and that it leaves memory as it was. -/
namespace Go.Proofs.YtddnhlobnembaaaGreatDoor
open Go Go.RowKit Go.FK _root_.Go.Proofs.Tryz
set_option maxHeartbeats 4000000
set_option maxRecDepth 100000
theorem c_bitsLen (x : Int) (w : World) (h0 : 0 ≤ x) (h1 : x ≤ 18446744073709551615) :
  Calls Tryz.prog 114 #[(.int .u64 x)] w (Ret fun v w' => v = (N6 (Lib.bitLen x.toNat)) ∧ Below w.heap.size w w') :=
 (Tryz.bits_Len x w h0 h1).mono fun e w' h => ⟨_, h.1, rfl, h.2 ▸ Below.refl _ _⟩
theorem c_xnext (B_ : Nat) (b : Nat) (z : Int) (w : World) (hs0 : B_ ≤ w.heap.size) (a : w.heap[b]? = some (.cells [(.int .u64 z)].toArray 231 (0, 0))) (s : B_ ≤ b) (hz : 0 ≤ z ∧ z ≤ 18446744073709551615) :
  Calls Tryz.prog 153 #[(pt b 0)] w (Ret fun v w' => ∃ (r : Int) (z2 : Int), v = (.int .u64 r) ∧ (0 ≤ r ∧ r ≤ 18446744073709551615) ∧ (0 ≤ z2 ∧ z2 ≤ 18446744073709551615) ∧ w'.heap[b]? = some (.cells [(.int .u64 z2)].toArray 231 (0, 0)) ∧ Ch (fun k => k = b) w w') := by
 refine wG 33 func153 rfl ?_
 have n := Below.refl B_ w
 have d : B_ ≤ (World.heap w).size := hs0
 have t := Ch.refl (fun k => k = b) w
 have l : (World.heap w).size ≤ b ∨ (fun k => k = b) b := .inr rfl
 refine wR (zI (nW (xE 9 10 zk zk zk ?_)))
 intro w1 q
 have n := n.trans (q.mono d)
 replace d := Nat.le_trans d (q.size)
 refine ⟨fun w => (w.heap[b]? = some (.cells [(.int .u64 z)].toArray 231 (0, 0))), ?_⟩
 have a := zC a q
 refine mp 0 rfl (pt b 0) (.inr a) zg (hq := (zA zE)) (mp 1 rfl (pt b 0) (.inr a) zg (hq := (zA zE)) (mt 2 [2, 7, 8, 9] rfl (.int .u64 z) a (yM b 0 (.int .u64 z) zk zf (fun w2 h2 => yO h2 rfl)) (hq := (zA zE)) (mp 3 rfl (pt b 0) (.inr a) zg (hq := (zA zE)) (mp 4 rfl (pt b 0) (.inr a) zg (hq := (zA zE)) (mt 5 [5, 6, 7, 8, 9] rfl (.int .u64 z) a (yM b 0 (.int .u64 z) zk zf (fun w2 h2 => yO h2 rfl)) (hq := (zA zE)) (yI 6 zk ?_))))))
 refine yX 6 rfl ?_ rfl
 refine L_shlU (yk := .u64) z 13 8192 rfl zk zk zk ?_
 intro z3 ai
 refine zS ?_
 refine ⟨rfl, .inr a, yI 7 zk (yX 7 rfl ?_ rfl)⟩
 refine L_xorU z z3 zk zk ?_
 intro p af
 refine zS ?_
 refine ⟨rfl, .inr a, mp 8 rfl (pt b 0) (.inr a) zg (hq := (zA zE)) (yI 9 zk (yX 9 rfl ?_ rfl))⟩
 refine z1 0 (.int .u64 p) [(.int .u64 p)] a ?_
 intro w7 o
 replace d := Nat.le_trans d (Nat.le_of_eq o.size.symm)
 have a := o.here
 refine zS ?_
 refine ⟨rfl, .inl zk, yW zk (zD (yA (xE 9 10 zk zk zk ?_)))⟩
 intro w9 g
 have n := n.trans (o.below s)
 have n := n.trans (g.mono d)
 replace d := Nat.le_trans d (g.size)
 refine ⟨fun w => (w.heap[b]? = some (.cells [(.int .u64 p)].toArray 231 (0, 0))), ?_⟩
 have a := zC a g
 refine mp 0 rfl (pt b 0) (.inr a) zg (hq := (zA zE)) (mp 1 rfl (pt b 0) (.inr a) zg (hq := (zA zE)) (mt 2 [2, 7, 8, 9] rfl (.int .u64 p) a (yM b 0 (.int .u64 p) zk zf (fun w2 h2 => yO h2 rfl)) (hq := (zA zE)) (mp 3 rfl (pt b 0) (.inr a) zg (hq := (zA zE)) (mp 4 rfl (pt b 0) (.inr a) zg (hq := (zA zE)) (mt 5 [5, 6, 7, 8, 9] rfl (.int .u64 p) a (yM b 0 (.int .u64 p) zk zf (fun w2 h2 => yO h2 rfl)) (hq := (zA zE)) (yI 6 zk ?_))))))
 refine yX 6 rfl ?_ rfl
 refine L_shrU (yk := .u64) p 7 128 rfl zk zo zk zk ?_
 intro u aa
 refine zS ?_
 refine ⟨rfl, .inr a, yI 7 zk (yX 7 rfl ?_ rfl)⟩
 refine L_xorU p u zk zk ?_
 intro c ad
 refine zS ?_
 refine ⟨rfl, .inr a, mp 8 rfl (pt b 0) (.inr a) zg (hq := (zA zE)) (yI 9 zk (yX 9 rfl ?_ rfl))⟩
 refine z1 0 (.int .u64 c) [(.int .u64 c)] a ?_
 intro ae i
 replace d := Nat.le_trans d (Nat.le_of_eq i.size.symm)
 have a := i.here
 refine zS ?_
 refine ⟨rfl, .inl zk, yW zk (zD (yA (xE 9 10 zk zk zk ?_)))⟩
 intro ah f
 have n := n.trans (i.below s)
 have n := n.trans (f.mono d)
 replace d := Nat.le_trans d (f.size)
 refine ⟨fun w => (w.heap[b]? = some (.cells [(.int .u64 c)].toArray 231 (0, 0))), ?_⟩
 have a := zC a f
 refine mp 0 rfl (pt b 0) (.inr a) zg (hq := (zA zE)) (mp 1 rfl (pt b 0) (.inr a) zg (hq := (zA zE)) (mt 2 [2, 7, 8, 9] rfl (.int .u64 c) a (yM b 0 (.int .u64 c) zk zf (fun w2 h2 => yO h2 rfl)) (hq := (zA zE)) (mp 3 rfl (pt b 0) (.inr a) zg (hq := (zA zE)) (mp 4 rfl (pt b 0) (.inr a) zg (hq := (zA zE)) (mt 5 [5, 6, 7, 8, 9] rfl (.int .u64 c) a (yM b 0 (.int .u64 c) zk zf (fun w2 h2 => yO h2 rfl)) (hq := (zA zE)) (yI 6 zk ?_))))))
 refine yX 6 rfl ?_ rfl
 refine L_shlU (yk := .u64) c 17 131072 rfl zk zk zk ?_
 intro y ac
 refine zS ?_
 refine ⟨rfl, .inr a, yI 7 zk (yX 7 rfl ?_ rfl)⟩
 refine L_xorU c y zk zk ?_
 intro j ab
 refine zS ?_
 refine ⟨rfl, .inr a, mp 8 rfl (pt b 0) (.inr a) zg (hq := (zA zE)) (yI 9 zk (yX 9 rfl ?_ rfl))⟩
 refine z1 0 (.int .u64 j) [(.int .u64 j)] a ?_
 intro aj m
 replace d := Nat.le_trans d (Nat.le_of_eq m.size.symm)
 have a := m.here
 refine zS ?_
 refine ⟨rfl, .inl zk, yW zk (zD (wR (zH (zr (pt b 0) (zO 0 a rfl (zI (nQ (zW (yF [(.int .u64 j)] ?_)))))))))⟩
 replace t := (((((t.trans2 (Ch.of_below q) (fun _ h => h.elim)).trans2 (Ch.of_wrote o) (fun k e => e ▸ l)).trans2 (Ch.of_below g) (fun _ h => h.elim)).trans2 (Ch.of_wrote i) (fun k e => e ▸ l)).trans2 (Ch.of_below f) (fun _ h => h.elim)).trans2 (Ch.of_wrote m) (fun k e => e ▸ l)
 exact ⟨j, j, rfl, zo, zo, a, t⟩
theorem c_npow (n : Nat) (w : World) (h0 : 1 ≤ n) (h1 : n < 4611686018427387904) :
  Calls Tryz.prog 152 #[(N6 n)] w (Ret fun v w' => v = (.int .u64 (((2 ^ Lib.bitLen n) : Nat) : Int)) ∧ Below w.heap.size w w') := by
 refine wG 7 func152 rfl ?_
 have a := Below.refl w.heap.size w
 have c := bitLen_63 h0 h1
 have d := pow_bitLen n h0 h1
 refine wR (zI (nR (zH (L_conv (k := .i64) ((n : Nat) : Int) ((n : Nat) : Int) zk underlying144 zk (wrap_u64 _ zo zo) (zc (c_bitsLen ((n : Nat) : Int) _ zo zo) ?_)))))
 rintro _ e ⟨rfl, b⟩
 have a := a.tr b
 exact L_shl1 (yk := .i64) (Lib.bitLen ((n : Nat) : Int).toNat) (by (rw [Int.toNat_natCast]; omega)) zk zk (zI (nQ (zW (yF [(.int .u64 (((2 ^ (Lib.bitLen ((n : Nat) : Int).toNat)) : Nat) : Int))] ⟨congrArg (fun x : Nat => Value.int .u64 (x : Int)) (by first | (rw [Int.toNat_natCast]; done) | rfl), a⟩))))
theorem c_break (B_ : Nat) (o : Value) (s : List (Int)) (a : Nat) (b : Nat) (w : World) (hs0 : B_ ≤ w.heap.size) (c : Row w B_ 21 1 encI32 o s) (h1 : a ≤ b) (h2 : b ≤ s.length) (h3 : s.length ≤ 2305843009213693951) :
  Calls Tryz.prog 130 #[o, (N6 a), (N6 b)] w (Ret fun v w' => ∃ (ys : List (Int)), v = (.tuple #[]) ∧ Row w' B_ 21 1 encI32 o ys ∧ (Sw a b s ys) ∧ Ch (fun k => Value.ownBlock o = some k) w w') := by
 refine wG 65 func130 rfl ?_
 have r := Below.refl B_ w
 have p : B_ ≤ (World.heap w).size := hs0
 have hc := Ch.refl (fun k => Value.ownBlock o = some k) w
 have t : ∀ g, Value.ownBlock o = some g → (World.heap w).size ≤ g ∨ (fun k => Value.ownBlock o = some k) g := fun g h => .inr h
 refine wR (zH (zH (zsb b a (zI (nR (zH (nGe (b - a) 8 ?_ ?_)))))))
 ·intro h1
  refine nQ (zT (wR (zH (L_conv (k := .i64) (((b - a) : Nat) : Int) (((b - a) : Nat) : Int) zk underlying231 zk (wrap_u64 _ zo zo) (zN [(.int .u64 0)] 231 ?_)))))
  intro b2 w3 ah
  have a4 : B_ ≤ b2 := by rw [ah.num]; exact p
  have af : (World.heap w).size ≤ b2 ∨ (fun k => Value.ownBlock o = some k) b2 := .inl (by rw [ah.num]; exact hc.size)
  replace r := r.trans (ah.below.mono p)
  replace p := Nat.le_trans p (ah.below.size)
  have j := ah.here
  refine z1 0 (.int .u64 (((b - a) : Nat) : Int)) [(.int .u64 (((b - a) : Nat) : Int))] j ?_
  intro w5 a0
  replace p := Nat.le_trans p (Nat.le_of_eq a0.size.symm)
  replace c := c.below ah.below
  replace c := c.wrote a0 (c.ne j zi)
  replace j := a0.here
  refine nR (zH (zc (c_npow (b - a) _ zo zo) ?_))
  replace hc := (hc.trans2 (Ch.of_below ah.below) (fun _ h => h.elim)).trans2 (Ch.of_wrote a0) (fun k e => e ▸ af)
  rintro _ w7 ⟨rfl, a2⟩
  replace r := r.trans (a0.below a4)
  replace r := r.trans (a2.mono p)
  replace p := Nat.le_trans p (a2.size)
  refine zI (nR (zH (zH (L_quoN (b - a) 4 zo zo zk zk (L_mulN ((b - a) / 4) 2 zo zk zk (zad a (((b - a) / 4) * 2) (zsb (a + (((b - a) / 4) * 2)) 1 (zI (nQ (zY ?_))))))))))
  replace hc := hc.trans2 (Ch.of_below a2) (fun _ h => h.elim)
  replace j := zC j a2
  replace c := c.below a2
  refine xD (fun m s0 w0 => ∃ (i : Nat) (zr : Int) (ys : List Int), (m = a + (b - a) / 4 * 2 + 2 - i) ∧ (s0.ds = []) ∧ ([0, 1, 6, 7, 8, 9].map s0.f = [o, (N6 a), (N6 (b - a)), (pt b2 0), (.int .u64 (((2 ^ Lib.bitLen (b - a)) : Nat) : Int)), (N6 i)]) ∧ (Row w0 B_ 21 1 encI32 o ys) ∧ (w0.heap[b2]? = some (.cells [(.int .u64 zr)].toArray 231 (0, 0))) ∧ (Below B_ w w0) ∧ (Ch (fun k => Value.ownBlock o = some k) w w0) ∧ (B_ ≤ w0.heap.size) ∧ (a + (b - a) / 4 * 2 - 1 ≤ i ∧ i ≤ a + (b - a) / 4 * 2 + 2) ∧ (ys.length = s.length) ∧ (Sw a b s ys) ∧ (0 ≤ zr ∧ zr ≤ 18446744073709551615)) _ ⟨((a + (((b - a) / 4) * 2)) - 1), (((b - a) : Nat) : Int), s, rfl, zk, zk, c, j, r, hc, p, zo, rfl, .refl, zo⟩ ?_
  rintro cs cr cq ⟨i, zr, ys, hm, bg, bz, c, j, r, hc, p, i1, i3, i4, i6⟩
  refine yU bz ?_
  have hp := pow_bitLen (b - a) zo zo
  have cn := Nat.one_le_two_pow (n := Lib.bitLen (b - a))
  refine yA (wR (zH (zH (zH (L_quoN (b - a) 4 zo zo zk zk (L_mulN ((b - a) / 4) 2 zo zk zk (zad a (((b - a) / 4) * 2) (zad (a + (((b - a) / 4) * 2)) 1 (nLe i ((a + (((b - a) / 4) * 2)) + 1) ?_ ?_)))))))))
  ·intro cm
   refine nQ (zT (zP (zD (yA (zY (wR (zc (c_xnext 0 b2 zr _ (Nat.zero_le _) j (Nat.zero_le _) zo) ?_)))))))
   rintro _ ct ⟨bx, br, rfl, cf, ca, bq, ac⟩
   replace r := ac.below r p (fun k e => e ▸ a4)
   replace p := Nat.le_trans p ac.size
   replace c := c.ch ac (fun g e d => (c.ne j zi) (d ▸ e))
   replace j := bq
   refine zH (xM (((2 ^ Lib.bitLen (b - a)) : Nat) : Int) 1 ((((2 ^ Lib.bitLen (b - a)) - 1) : Nat) : Int) rfl zk zk (subU (2 ^ Lib.bitLen (b - a)) 1 zo zo) (L_andU bx ((2 ^ Lib.bitLen (b - a)) - 1) zo zk zk ?_))
   intro l b1
   refine L_conv (k := .u64) ((l : Nat) : Int) ((l : Nat) : Int) zk underlying3 zk (xC _ zo zo) (zI (nW (wR (zH (zH (nGe l (b - a) ?_ ?_))))))
   ·intro cu
    refine nQ (zT (zV (zH (zH (zsb l (b - a) (zI (nQ (xE 17 20 zk zk zk ?_))))))))
    intro cv aa
    replace r := r.trans (aa.mono p)
    replace p := Nat.le_trans p (aa.size)
    refine ⟨fun w => (Rd w encI32 o ys), ?_⟩
    replace c := c.below aa
    refine mp 0 rfl o (.inr c.rd) zg (hq := (zB (zA (zA (zB zE))))) (mp 1 rfl (N6 i) (.inr c.rd) zg (hq := (zB (zA (zA (zB zE))))) (mp 2 rfl o (.inr c.rd) zg (hq := (zB (zA (zA (zB zE))))) (mp 3 rfl (N6 a) (.inr c.rd) zg (hq := (zB (zA (zA (zB zE))))) (mp 4 rfl (N6 (l - (b - a))) (.inr c.rd) zg (hq := (zB (zA (zA (zB zE))))) (mp 5 rfl (N6 (a + (l - (b - a)))) (.inr c.rd) (fun w2 _ => xR a (l - (b - a)) zo zk zk w2) (hq := (zB (zA (zA (zB zE))))) (mp 6 rfl o (.inr c.rd) zg (hq := (zB (zA (zA (zB zE))))) (mp 7 rfl (N6 a) (.inr c.rd) zg (hq := (zB (zA (zA (zB zE))))) (mp 8 rfl (N6 (l - (b - a))) (.inr c.rd) zg (hq := (zB (zA (zA (zB zE))))) (mp 9 rfl (N6 (a + (l - (b - a)))) (.inr c.rd) (fun w2 _ => xR a (l - (b - a)) zo zk zk w2) (hq := (zB (zA (zA (zB zE))))) ?_)))))))))
    have q := zU ys (a + (l - (b - a))) zo; obtain ⟨z, ax⟩ := q
    have q := (c.rd).at (k := 1) zj ax; obtain ⟨bk, an, a7, cc⟩ := q
    refine mp 10 rfl (pt bk (an + (a + (l - (b - a))) * 1)) (.inr c.rd) (zX (k := .i64) o (a + (l - (b - a))) _ bk an yN a7 zo zk zk) (hq := (zB (zA (zA (zB zE))))) (mt 11 [11, 16, 17, 18, 19] rfl (I3 z) c.rd (yM bk (an + (a + (l - (b - a))) * 1) (I3 z) zk zf (fun w2 h2 => Rd.later (k := 1) h2 zj a7 ax 0 _ rfl)) (hq := (zB (zA (zA (zB zE))))) (mp 12 rfl o (.inr c.rd) zg (hq := (zB (zA (zA (zB zE))))) (mp 13 rfl (N6 i) (.inr c.rd) zg (hq := (zB (zA (zA (zB zE))))) ?_)))
    have q := zU ys i zo; obtain ⟨ag, y⟩ := q
    have q := (c.rd).at (k := 1) zj y; obtain ⟨be, ao, bb, cg⟩ := q
    refine mp 14 rfl (pt be (ao + i * 1)) (.inr c.rd) (zX (k := .i64) o i _ be ao yN bb zo zk zk) (hq := (zB (zA (zA (zB zE))))) (mt 15 [15, 16, 17, 18, 19] rfl (I3 ag) c.rd (yM be (ao + i * 1) (I3 ag) zk zf (fun w2 h2 => Rd.later (k := 1) h2 zj bb y 0 _ rfl)) (hq := (zB (zA (zA (zB zE))))) ?_)
    have q := (c.rd).at (k := 1) zj y; obtain ⟨bf, ae, a3, b0⟩ := q
    refine mp 16 rfl (pt bf (ae + i * 1)) (.inr c.rd) (zX (k := .i64) o i _ bf ae yN a3 zo zk zk) (hq := (zB (zA (zA (zB zE))))) (yI 17 zk (yX 17 rfl ?_ rfl))
    refine yG i 0 bf ae ag z (I3 z) c zj y a3 zk zk rfl zk zk rfl ?_
    intro cp bo ar
    replace r := r.tg p ar c
    replace p := Nat.le_trans p (ar.size)
    replace j := zC j aa
    replace j := yB j ar (c.ne j zi)
    replace c := bo
    have b5 : (List.set ys i z)[i]? = some z := yL y
    refine zS ?_
    refine ⟨rfl, .inl zk, ?_⟩
    have q := zU (List.set ys i z) (a + (l - (b - a))) (by (simp only [yH, List.length_set] at *; omega)); obtain ⟨bw, a1⟩ := q
    have q := (c.rd).at (k := 1) zj a1; obtain ⟨bj, ap, a5, b7⟩ := q
    refine mp 18 rfl (pt bj (ap + (a + (l - (b - a))) * 1)) (.inl zk) (zX (k := .i64) o (a + (l - (b - a))) _ bj ap yN a5 (by (simp only [yH, List.length_set] at *; omega)) zk zk) (hq := (zB (zA (zA (zB zE))))) (yI 19 zk (yX 19 rfl ?_ rfl))
    refine yG (a + (l - (b - a))) 0 bj ap bw ag (I3 ag) c zj a1 a5 zk zk rfl zk zk rfl ?_
    intro cw bm aw
    replace r := r.tg p aw c
    replace p := Nat.le_trans p (aw.size)
    replace j := yB j aw (c.ne j zi)
    replace c := bm
    have cd : (List.set (List.set ys i z) (a + (l - (b - a))) ag)[(a + (l - (b - a)))]? = some ag := yL a1
    have eS := xG y ax
    replace c := c.cast eS; clear eS
    refine zS ?_
    refine ⟨rfl, .inl zk, yW zk (zJ (zD (zV (zH (zad i 1 (zI (zS ?_)))))))⟩
    replace hc := (((hc.trans2 ac (fun k e => e ▸ af)).trans2 (Ch.of_below aa) (fun _ h => h.elim)).trans2 (Ch.of_grown ar) (fun k e => t k e)).trans2 (Ch.of_grown aw) (fun k e => t k e)
    refine zD ⟨_, zo, (i + 1), br, (swp ys i (a + (l - (b - a)))), rfl, bg, zk, c, j, r, hc, p, zo, ?_, ?_, zo⟩
    ·rw [yH]; exact i3
    exact .swap _ _ i4 zo zo zo
   intro ck
   refine nQ (zF (zP (zD (xE 17 20 zk zk zk ?_))))
   intro ci ab
   replace r := r.trans (ab.mono p)
   replace p := Nat.le_trans p (ab.size)
   refine ⟨fun w => (Rd w encI32 o ys), ?_⟩
   replace c := c.below ab
   refine mp 0 rfl o (.inr c.rd) zg (hq := (zB (zA (zA (zB zE))))) (mp 1 rfl (N6 i) (.inr c.rd) zg (hq := (zB (zA (zA (zB zE))))) (mp 2 rfl o (.inr c.rd) zg (hq := (zB (zA (zA (zB zE))))) (mp 3 rfl (N6 a) (.inr c.rd) zg (hq := (zB (zA (zA (zB zE))))) (mp 4 rfl (N6 l) (.inr c.rd) zg (hq := (zB (zA (zA (zB zE))))) (mp 5 rfl (N6 (a + l)) (.inr c.rd) (fun w2 _ => xR a l zo zk zk w2) (hq := (zB (zA (zA (zB zE))))) (mp 6 rfl o (.inr c.rd) zg (hq := (zB (zA (zA (zB zE))))) (mp 7 rfl (N6 a) (.inr c.rd) zg (hq := (zB (zA (zA (zB zE))))) (mp 8 rfl (N6 l) (.inr c.rd) zg (hq := (zB (zA (zA (zB zE))))) (mp 9 rfl (N6 (a + l)) (.inr c.rd) (fun w2 _ => xR a l zo zk zk w2) (hq := (zB (zA (zA (zB zE))))) ?_)))))))))
   have q := zU ys (a + l) zo; obtain ⟨ad, ay⟩ := q
   have q := (c.rd).at (k := 1) zj ay; obtain ⟨bh, ai, a9, b3⟩ := q
   refine mp 10 rfl (pt bh (ai + (a + l) * 1)) (.inr c.rd) (zX (k := .i64) o (a + l) _ bh ai yN a9 zo zk zk) (hq := (zB (zA (zA (zB zE))))) (mt 11 [11, 16, 17, 18, 19] rfl (I3 ad) c.rd (yM bh (ai + (a + l) * 1) (I3 ad) zk zf (fun w2 h2 => Rd.later (k := 1) h2 zj a9 ay 0 _ rfl)) (hq := (zB (zA (zA (zB zE))))) (mp 12 rfl o (.inr c.rd) zg (hq := (zB (zA (zA (zB zE))))) (mp 13 rfl (N6 i) (.inr c.rd) zg (hq := (zB (zA (zA (zB zE))))) ?_)))
   have q := zU ys i zo; obtain ⟨am, u⟩ := q
   have q := (c.rd).at (k := 1) zj u; obtain ⟨bc, ak, a6, cb⟩ := q
   refine mp 14 rfl (pt bc (ak + i * 1)) (.inr c.rd) (zX (k := .i64) o i _ bc ak yN a6 zo zk zk) (hq := (zB (zA (zA (zB zE))))) (mt 15 [15, 16, 17, 18, 19] rfl (I3 am) c.rd (yM bc (ak + i * 1) (I3 am) zk zf (fun w2 h2 => Rd.later (k := 1) h2 zj a6 u 0 _ rfl)) (hq := (zB (zA (zA (zB zE))))) ?_)
   have q := (c.rd).at (k := 1) zj u; obtain ⟨bd, aq, a8, ce⟩ := q
   refine mp 16 rfl (pt bd (aq + i * 1)) (.inr c.rd) (zX (k := .i64) o i _ bd aq yN a8 zo zk zk) (hq := (zB (zA (zA (zB zE))))) (yI 17 zk (yX 17 rfl ?_ rfl))
   refine yG i 0 bd aq am ad (I3 ad) c zj u a8 zk zk rfl zk zk rfl ?_
   intro cl bn au
   replace r := r.tg p au c
   replace p := Nat.le_trans p (au.size)
   replace j := zC j ab
   replace j := yB j au (c.ne j zi)
   replace c := bn
   have b9 : (List.set ys i ad)[i]? = some ad := yL u
   refine zS ?_
   refine ⟨rfl, .inl zk, ?_⟩
   have q := zU (List.set ys i ad) (a + l) (by (simp only [yH, List.length_set] at *; omega)); obtain ⟨bv, az⟩ := q
   have q := (c.rd).at (k := 1) zj az; obtain ⟨bi, aj, ba, b4⟩ := q
   refine mp 18 rfl (pt bi (aj + (a + l) * 1)) (.inl zk) (zX (k := .i64) o (a + l) _ bi aj yN ba (by (simp only [yH, List.length_set] at *; omega)) zk zk) (hq := (zB (zA (zA (zB zE))))) (yI 19 zk (yX 19 rfl ?_ rfl))
   refine yG (a + l) 0 bi aj bv am (I3 am) c zj az ba zk zk rfl zk zk rfl ?_
   intro co bp av
   replace r := r.tg p av c
   replace p := Nat.le_trans p (av.size)
   replace j := yB j av (c.ne j zi)
   replace c := bp
   have b8 : (List.set (List.set ys i ad) (a + l) am)[(a + l)]? = some am := yL az
   have eS := xG u ay
   replace c := c.cast eS; clear eS
   refine zS ?_
   refine ⟨rfl, .inl zk, yW zk (zJ (zD (zV (zH (zad i 1 (zI (zS ?_)))))))⟩
   replace hc := (((hc.trans2 ac (fun k e => e ▸ af)).trans2 (Ch.of_below ab) (fun _ h => h.elim)).trans2 (Ch.of_grown au) (fun k e => t k e)).trans2 (Ch.of_grown av) (fun k e => t k e)
   refine zD ⟨_, zo, (i + 1), br, (swp ys i (a + l)), rfl, bg, zk, c, j, r, hc, p, zo, ?_, ?_, zo⟩
   ·rw [yH]; exact i3
   exact .swap _ _ i4 zo zo zo
  intro cj
  refine nQ (zF (yR (zL (zL (yD (znrm [] (hd := bg) ?_))))))
  exact ⟨ys, rfl, c, (by first | exact .refl | exact i4), hc⟩
 intro cx
 refine nQ (zF (zP (znrm [] ?_)))
 exact ⟨s, rfl, c, (by first | exact .refl | exact i4), hc⟩
end Go.Proofs.YtddnhlobnembaaaGreatDoor
end

/- === Wcsq === -/
section
/- Walks, written by my program walk.py out of the specification csq.py: each theorem says what one function returns and that it leaves memory as it was. -/
namespace Go.Proofs.YtddnhlobnembaaaGreatDoor
open Go Go.RowKit Go.FK _root_.Go.Proofs.Tryz
set_option maxHeartbeats 4000000
set_option maxRecDepth 100000
theorem c_pdq_r (m_ : Nat) : ∀ (B_ : Nat) (j : Value) (s : List (Int)) (a : Nat) (b : Nat) (z : Nat) (w : World) (hs0 : B_ ≤ w.heap.size) (c : Row w B_ 21 1 encI32 j s) (h1 : a ≤ b) (h2 : b ≤ s.length) (h3 : s.length ≤ 2305843009213693951) (hlow : Low s a b) (hzl : z ≤ 1000) (hm_ : b - a = m_),
  Calls Tryz.prog 113 #[j, (N6 a), (N6 b), (N6 z)] w (Ret fun v w' => ∃ (ys : List (Int)), v = (.tuple #[]) ∧ Row w' B_ 21 1 encI32 j ys ∧ (Sw a b s ys) ∧ (Srt ys a b) ∧ Ch (fun k => Value.ownBlock j = some k) w w') := by
 induction m_ using Nat.strongRecOn with
 | ind m_ ih =>
  intro B_ j s a b z w hs0 c h1 h2 h3 hlow hzl hm_
  refine wG 134 func113 rfl ?_
  have q := Below.refl B_ w
  have d : B_ ≤ (World.heap w).size := hs0
  have o := Ch.refl (fun k => Value.ownBlock j = some k) w
  have i : ∀ g, Value.ownBlock j = some g → (World.heap w).size ≤ g ∨ (fun k => Value.ownBlock j = some k) g := fun g h => .inr h
  refine wR (zI (nR (zI (nQ (zY (xD (fun m s0 w0 => ∃ (p : Nat) (r : Nat) (z1 : Nat) (p8 : Bool) (p9 : Bool) (ys : List Int), (m = r - p) ∧ (s0.ds = []) ∧ ([0, 1, 2, 3, 8, 9].map s0.f = [j, (N6 p), (N6 r), (N6 z1), (.bool p8), (.bool p9)]) ∧ (Row w0 B_ 21 1 encI32 j ys) ∧ (Below B_ w w0) ∧ (Ch (fun k => Value.ownBlock j = some k) w w0) ∧ (B_ ≤ w0.heap.size) ∧ (a ≤ p ∧ p ≤ r ∧ r ≤ b ∧ z1 ≤ 1000) ∧ (ys.length = s.length) ∧ (Sw a b s ys) ∧ (Jd ys a b p r) ∧ (Low ys p r)) _ ⟨a, b, z, true, true, s, rfl, zk, zk, c, q, o, d, zo, rfl, .refl, (Jd.start _ _ _), hlow⟩ ?_))))))
  rintro m1 s2 w3 ⟨p, r, z1, p8, p9, ys, hm, y, ap, c, q, o, d, i1, i3, i4, i5, i6⟩
  refine yU ap (zY (wR (zH (zH (zsb r p (zI (nW (wR (zH (nLe (r - p) 12 ?_ ?_))))))))))
  ·intro h4
   refine nQ (zT (wR (zH (zH (zH (zc (c_insort B_ j ys p r _ d c zo zo zo) ?_))))))
   rintro _ w6 ⟨d3, rfl, ea, d2, db, ca⟩
   replace o := o.trans2 ca (fun k e => i k e)
   have q := ca.below q d (fun k e => (World.ownsRow.lt c k e).1)
   replace d := Nat.le_trans d ca.size
   have c := ea
   have l := d2; have ao := l.len
   have hS := db
   refine nQ (zW (zK (zR (zK (zR (yF [] (hd := y) ?_))))))
   exact ⟨d3, rfl, c, (by exact i4.trans (l.mono zo zo zo)), (by exact (i5.keep l zo zo zo).done hS), o⟩
  ·intro fh
   refine nQ (zF (zP (zD (yA (wR (zH (nEq z1 0 ?_ ?_)))))))
   ·intro e1
    refine nQ (zT (wR (zH (zH (zH (zc (c_heap B_ j ys p r _ d c zo zo zo) ?_))))))
    rintro _ fe ⟨c6, rfl, dk, cv, dp, bj⟩
    replace o := o.trans2 bj (fun k e => i k e)
    have q := bj.below q d (fun k e => (World.ownsRow.lt c k e).1)
    replace d := Nat.le_trans d bj.size
    have c := dk
    have l := cv; have ao := l.len
    have hS := dp
    refine nQ (zW (zK (zR (zK (zR (yF [] (hd := y) ?_))))))
    exact ⟨c6, rfl, c, (by exact i4.trans (l.mono zo zo zo)), (by exact (i5.keep l zo zo zo).done hS), o⟩
   ·intro e8
    refine nQ (zF (zP (zD (W_cut (fun s0 w0 => ∃ (z2 : Nat) (yb : List Int), (s0.ds = []) ∧ ([0, 1, 2, 8, 9, 10, 3].map s0.f = [j, (N6 p), (N6 r), (.bool p8), (.bool p9), (N6 (r - p)), (N6 z2)]) ∧ (Row w0 B_ 21 1 encI32 j yb) ∧ (Below B_ w w0) ∧ (Ch (fun k => Value.ownBlock j = some k) w w0) ∧ (B_ ≤ w0.heap.size) ∧ (z2 ≤ 1000) ∧ (yb.length = s.length) ∧ (Sw p r ys yb)) ?_ ?_))))
    ·refine wR (zH (znt p8 (nQ ?_)))
     rcases Bool.eq_false_or_eq_true (!p8) with a5 | a5
     ·skip
      refine W_ifT a5 zk (wR (zH (zH (zH (zc (c_break B_ j ys p r _ d c zo zo zo) ?_)))))
      rintro _ fm ⟨dq, rfl, dj, de, bf⟩
      replace o := o.trans2 bf (fun k e => i k e)
      have q := bf.below q d (fun k e => (World.ownsRow.lt c k e).1)
      replace d := Nat.le_trans d bf.size
      have c := dj
      have l := de; have ao := l.len
      refine nQ (zV (zH (zsb z1 1 (zI (zS (zD ⟨(z1 - 1), dq, y, zk, c, q, o, d, zo, ?_, ?_⟩))))))
      ·first | exact i3 | exact l.len.trans i3
      ·first | exact .refl | exact l
     ·skip
      refine W_ifF a5 zk (zP (zD ⟨z1, ys, y, zk, c, q, o, d, zo, ?_, ?_⟩))
      ·first | exact i3 | exact l.len.trans i3
      ·first | exact .refl | exact l
    ·rintro ey ff ⟨z2, yb, y, ap, c, q, o, d, j0, j3, j4⟩
     refine yU ap (wR (zH (zH (zH (zc (c_pivot B_ j yb p r _ d c zo zo zo) ?_)))))
     rintro _ e4 ⟨ef, bh, br, rfl, dd, cw, eg, a6⟩
     replace o := o.trans2 a6 (fun k e => i k e)
     have q := a6.below q d (fun k e => (World.ownsRow.lt c k e).1)
     replace d := Nat.le_trans d a6.size
     have c := dd
     have c := c.cast cw
     refine zH (zr (N6 bh) (zr (I6 br) (zI (zI (nQ (W_cut (fun s0 w0 => ∃ (pv : Nat) (hn : Int) (yc : List Int), (s0.ds = []) ∧ ([0, 1, 2, 3, 8, 9, 10, 11, 12].map s0.f = [j, (N6 p), (N6 r), (N6 z2), (.bool p8), (.bool p9), (N6 (r - p)), (N6 pv), (I6 hn)]) ∧ (Row w0 B_ 21 1 encI32 j yc) ∧ (Below B_ w w0) ∧ (Ch (fun k => Value.ownBlock j = some k) w w0) ∧ (B_ ≤ w0.heap.size) ∧ (p ≤ pv ∧ pv < r) ∧ (yc.length = s.length) ∧ (Sw p r ys yc)) ?_ ?_))))))
     ·refine wR (zH (zEq .i64 br 2 ?_ ?_))
      ·intro e2
       refine nQ (zT (wR (zH (zH (zH (zc (c_rev B_ j yb p r _ d c zo zo zo) ?_))))))
       rintro _ fi ⟨c8, rfl, c1, dm, a9⟩
       replace o := o.trans2 a9 (fun k e => i k e)
       have q := a9.below q d (fun k e => (World.ownsRow.lt c k e).1)
       replace d := Nat.le_trans d a9.size
       have c := c1
       have l := dm; have ao := l.len
       refine nR (zH (zsb r 1 (zH (zH (zsb bh p (zsb (r - 1) (bh - p) (zI (nQ (zV (zI (zS (zD ⟨((r - 1) - (bh - p)), 1, c8, y, zk, c, q, o, d, zo, ?_, ?_⟩))))))))))))
       ·first | exact j3 | exact l.len.trans j3
       ·first | exact j4 | exact j4.trans l
      ·intro fd
       refine nQ (zF (zP (zD ⟨bh, br, yb, y, zk, c, q, o, d, zo, ?_, ?_⟩)))
       ·first | exact j3 | exact l.len.trans j3
       ·first | exact j4 | exact j4.trans l
     ·rintro fo e7 ⟨pv, hn, yc, y, ap, c, q, o, d, k1, k3, k4⟩
      refine yU ap (W_cut (fun s0 w0 => ∃ (yd : List Int), (s0.ds = []) ∧ ([0, 1, 2, 3, 8, 9, 10, 11].map s0.f = [j, (N6 p), (N6 r), (N6 z2), (.bool p8), (.bool p9), (N6 (r - p)), (N6 pv)]) ∧ (Row w0 B_ 21 1 encI32 j yd) ∧ (Below B_ w w0) ∧ (Ch (fun k => Value.ownBlock j = some k) w w0) ∧ (B_ ≤ w0.heap.size) ∧ (yd.length = s.length) ∧ (Sw p r ys yd)) ?_ ?_)
      ·refine wR (zH (zH ?_))
       cases p8
       ·skip
        refine zs (wM (zH (zs (zs (wM (nQ (zF (zP (zD ⟨yc, y, zk, c, q, o, d, ?_, ?_⟩)))))))))
        ·first | exact k3 | exact l.len.trans k3
        ·first | exact k4 | exact k4.trans l
       ·skip
        refine zw (zH (wB (zH ?_)))
        cases p9
        ·skip
         refine zs (zs (wM (nQ (zF (zP (zD ⟨yc, y, zk, c, q, o, d, ?_, ?_⟩))))))
         ·first | exact k3 | exact l.len.trans k3
         ·first | exact k4 | exact k4.trans l
        ·skip
         refine zw (zH (zw (zEq .i64 hn 1 ?_ ?_)))
         ·intro fc
          refine wB (nQ (zT (wR (zH (zH (zH (zc (c_partins B_ j yc p r _ d c zo zo zo (by exact i6.keep k4)) ?_)))))))
          rintro _ e3 ⟨bo, d7, rfl, cz, dw, c5, a8⟩
          replace o := o.trans2 a8 (fun k e => i k e)
          have q := a8.below q d (fun k e => (World.ownsRow.lt c k e).1)
          replace d := Nat.le_trans d a8.size
          have c := cz
          have l := dw; have ao := l.len
          have hS := c5
          refine nQ ?_
          rcases Bool.eq_false_or_eq_true d7 with ba | ba
          ·skip
           refine W_ifT ba zk (zW (zK (zR (zK (zR (yF [] (hd := y) ?_))))))
           exact ⟨bo, rfl, c, (by exact i4.trans ((k4.trans l).mono zo zo zo)), (by exact (i5.keep (k4.trans l) zo zo zo).done (hS za)), o⟩
          ·skip
           refine W_ifF ba zk (zP (zD ⟨bo, y, zk, c, q, o, d, ?_, ?_⟩))
           ·first | exact k3 | exact l.len.trans k3
           ·first | exact k4 | exact k4.trans l
         ·intro e9
          refine wB (nQ (zF (zP (zD ⟨yc, y, zk, c, q, o, d, ?_, ?_⟩))))
          ·first | exact k3 | exact l.len.trans k3
          ·first | exact k4 | exact k4.trans l
      ·rintro ez fk ⟨yd, y, ap, c, q, o, d, l3, l4⟩
       refine yU ap (yA (yA (xJ zk zk (yE (Lq_cmp .i64 ((p : Nat) : Int) ((0 : Nat) : Int) (0 < p) rfl (cmpN_gt p 0) zk zk ?_ ?_)))))
       ·intro d6
        replace d6 : 0 < p := by omega
        refine yE (qw (yE (qw (yE (qw (Lq_subN p 1 zo zo zk zk (qw ?_)))))))
        have hz := zU yd (p - 1) zo; obtain ⟨a2, a3⟩ := hz
        have hz := (c.rd).at (k := 1) zj a3
        obtain ⟨di, a0, da, dc⟩ := hz
        refine yJ (k := .i64) j (p - 1) _ di a0 yN da zo zk zk (qw (yQ di (a0 + (p - 1) * 1) (I3 a2) zk zf (dc 0 _ rfl) (qw (yE (qw (yE (qw ?_)))))))
        have hz := zU yd pv zo; obtain ⟨a4, bc⟩ := hz
        have hz := (c.rd).at (k := 1) zj bc
        obtain ⟨dh, bi, dv, c7⟩ := hz
        refine yJ (k := .i64) j pv _ dh bi yN dv zo zk zk (qw (yQ dh (bi + pv * 1) (I3 a4) zk zf (c7 0 _ rfl) (qw (xS 134 [(I3 a2), (I3 a4)] (.bool (decide (a2 < a4))) zg (fun wq hbq => wJ a2 a4 wq ) (yY (decide (a2 < a4)) ?_ ?_)))))
        ·intro d8
         have eb := el_lt a3 bc d8
         refine qw (xU true zk (qT (yS ?_)))
         intro fn av
         have q := q.trans (av.mono d)
         replace o := o.trans2 (Ch.of_below av) (fun _ h => h.elim)
         replace d := Nat.le_trans d (av.size)
         have c := c.below av
         refine zD (zF (zP (zD (wR (zH (zH (zH (zH (zc (c_part B_ j yd p r pv _ d c zo zo zo zo) ?_)))))))))
         rintro _ e0 ⟨aw, aa, bg, rfl, c0, dt, ev, dr, be⟩
         replace o := o.trans2 be (fun k e => i k e)
         have q := be.below q d (fun k e => (World.ownsRow.lt c k e).1)
         replace d := Nat.le_trans d be.size
         have c := c0
         have l := dt; have ao := l.len
         have u := dr
         refine zH (zr (N6 aa) (zr (.bool bg) (zI (zI (nR (zH (zI (nR (zH (zH (zsb aa p (zH (zH (zsb r aa (zI (zI (nR (zH (L_quoN (r - p) 8 zo zo zk zk (zI (nR (zH (zH (nLt (aa - p) (r - aa) ?_ ?_))))))))))))))))))))))))
         ·intro fl
          refine nQ (zT (wR (zH (zH (nGe (aa - p) ((r - p) / 8) ?_ ?_)))))
          ·intro e6
           refine zI (nR (zH (zH (zH (zH (zc ((ih (aa - p) zo) B_ j aw p aa z2 _ d c zo zo zo (by exact (Low.keep (i6.keep l4) l).part zo) zo (by rfl)) ?_))))))
           rintro _ e5 ⟨dl, rfl, c3, dn, du, bb⟩
           replace o := o.trans2 bb (fun k e => i k e)
           have q := bb.below q d (fun k e => (World.ownsRow.lt c k e).1)
           replace d := Nat.le_trans d bb.size
           have c := c3
           have t := dn; have hS := du; have ai := t.len
           refine nQ (zV (zH (zad aa 1 (zI (zS (zJ (zD ⟨_, zo, (aa + 1), r, z2, true, bg, dl, rfl, y, zk, c, q, o, d, zo, ?_, ?_, ?_, ?_⟩)))))))
           ·exact t.len.trans (l.len.trans l3)
           ·exact i4.trans ((l4.trans (l.trans (t.mono zo zo zo))).mono zo zo zo)
           ·exact Jd.right (i5.keep (l4.trans (l.trans (t.mono zo zo zo))) zo zo zo) (u.keepL t zo zo) zo zo hS
           ·exact (u.keepL t zo zo).low (Nat.le_refl _)
          ·intro fa
           refine zI (nR (zH (zH (zH (zH (zc ((ih (aa - p) zo) B_ j aw p aa z2 _ d c zo zo zo (by exact (Low.keep (i6.keep l4) l).part zo) zo (by rfl)) ?_))))))
           rintro _ fb ⟨cx, rfl, c4, cy, c9, az⟩
           replace o := o.trans2 az (fun k e => i k e)
           have q := az.below q d (fun k e => (World.ownsRow.lt c k e).1)
           replace d := Nat.le_trans d az.size
           have c := c4
           have t := cy; have hS := c9; have ai := t.len
           refine nQ (zV (zH (zad aa 1 (zI (zS (zJ (zD ⟨_, zo, (aa + 1), r, z2, false, bg, cx, rfl, y, zk, c, q, o, d, zo, ?_, ?_, ?_, ?_⟩)))))))
           ·exact t.len.trans (l.len.trans l3)
           ·exact i4.trans ((l4.trans (l.trans (t.mono zo zo zo))).mono zo zo zo)
           ·exact Jd.right (i5.keep (l4.trans (l.trans (t.mono zo zo zo))) zo zo zo) (u.keepL t zo zo) zo zo hS
           ·exact (u.keepL t zo zo).low (Nat.le_refl _)
         ·intro fg
          refine nQ (zF (wR (zH (zH (nGe (r - aa) ((r - p) / 8) ?_ ?_)))))
          ·intro fj
           refine zI (nR (zH (zH (zad aa 1 (zH (zH (zc ((ih (r - (aa + 1)) zo) B_ j aw (aa + 1) r z2 _ d c zo zo zo (by exact Mid.low u zo) zo (by rfl)) ?_)))))))
           rintro _ eo ⟨ch, rfl, b3, bv, b7, ak⟩
           replace o := o.trans2 ak (fun k e => i k e)
           have q := ak.below q d (fun k e => (World.ownsRow.lt c k e).1)
           replace d := Nat.le_trans d ak.size
           have c := b3
           have t := bv; have hS := b7; have ai := t.len
           refine nQ (zV (zH (zI (zS (zJ (zD ⟨_, zo, p, aa, z2, true, bg, ch, rfl, y, zk, c, q, o, d, zo, ?_, ?_, ?_, ?_⟩))))))
           ·exact t.len.trans (l.len.trans l3)
           ·exact i4.trans ((l4.trans (l.trans (t.mono zo zo zo))).mono zo zo zo)
           ·exact Jd.left (i5.keep (l4.trans (l.trans (t.mono zo zo zo))) zo zo zo) (u.keepR t zo) zo zo hS
           ·exact (i6.keep (l4.trans (l.trans (t.mono zo zo zo)))).part zo
          ·intro en
           refine zI (nR (zH (zH (zad aa 1 (zH (zH (zc ((ih (r - (aa + 1)) zo) B_ j aw (aa + 1) r z2 _ d c zo zo zo (by exact Mid.low u zo) zo (by rfl)) ?_)))))))
           rintro _ em ⟨bs, rfl, ce, cr, cf, al⟩
           replace o := o.trans2 al (fun k e => i k e)
           have q := al.below q d (fun k e => (World.ownsRow.lt c k e).1)
           replace d := Nat.le_trans d al.size
           have c := ce
           have t := cr; have hS := cf; have ai := t.len
           refine nQ (zV (zH (zI (zS (zJ (zD ⟨_, zo, p, aa, z2, false, bg, bs, rfl, y, zk, c, q, o, d, zo, ?_, ?_, ?_, ?_⟩))))))
           ·exact t.len.trans (l.len.trans l3)
           ·exact i4.trans ((l4.trans (l.trans (t.mono zo zo zo))).mono zo zo zo)
           ·exact Jd.left (i5.keep (l4.trans (l.trans (t.mono zo zo zo))) zo zo zo) (u.keepR t zo) zo zo hS
           ·exact (i6.keep (l4.trans (l.trans (t.mono zo zo zo)))).part zo
        ·intro c2
         have dy := el_le a3 bc c2
         refine qw (xU false zk (qT (yS ?_)))
         intro ej ag
         have q := q.trans (ag.mono d)
         replace o := o.trans2 (Ch.of_below ag) (fun _ h => h.elim)
         replace d := Nat.le_trans d (ag.size)
         have c := c.below ag
         refine zD (zT (wR (zH (zH (zH (zH (zc (c_parteq B_ j yd p r pv _ d c zo zo zo zo) ?_)))))))
         rintro _ eu ⟨b2, dg, rfl, b4, cl, d9, cj, b5, aj⟩
         replace o := o.trans2 aj (fun k e => i k e)
         have q := aj.below q d (fun k e => (World.ownsRow.lt c k e).1)
         replace d := Nat.le_trans d aj.size
         have c := b4
         have l := cl; have ao := l.len
         have hE := cj; have d1 := b5
         refine zI (nR (zH (zI (nQ (yR (zL (yD (zD ⟨_, zo, dg, r, z2, p8, p9, b2, rfl, y, zk, c, q, o, d, zo, ?_, ?_, ?_, ?_⟩))))))))
         ·exact l.len.trans l3
         ·exact i4.trans ((l4.trans l).mono zo zo zo)
         ·exact Jd.eqs (i5.keep (l4.trans l) zo zo zo) hE zo zo (least_of (i6.keep l4) zo l za d1)
         ·exact hE.low zo
       ·intro df
        replace df : p ≤ 0 := by omega
        refine yE (qs (qs (qs (qs (qs (qs (qs (qs (qs (qs (qs (qF (yS ?_)))))))))))))
        intro eh af
        have q := q.trans (af.mono d)
        replace o := o.trans2 (Ch.of_below af) (fun _ h => h.elim)
        replace d := Nat.le_trans d (af.size)
        have c := c.below af
        refine zD (zF (zP (zD (wR (zH (zH (zH (zH (zc (c_part B_ j yd p r pv _ d c zo zo zo zo) ?_)))))))))
        rintro _ ex ⟨ae, n, ah, rfl, cs, bz, d5, cu, an⟩
        replace o := o.trans2 an (fun k e => i k e)
        have q := an.below q d (fun k e => (World.ownsRow.lt c k e).1)
        replace d := Nat.le_trans d an.size
        have c := cs
        have l := bz; have ao := l.len
        have u := cu
        refine zH (zr (N6 n) (zr (.bool ah) (zI (zI (nR (zH (zI (nR (zH (zH (zsb n p (zH (zH (zsb r n (zI (zI (nR (zH (L_quoN (r - p) 8 zo zo zk zk (zI (nR (zH (zH (nLt (n - p) (r - n) ?_ ?_))))))))))))))))))))))))
        ·intro ec
         refine nQ (zT (wR (zH (zH (nGe (n - p) ((r - p) / 8) ?_ ?_)))))
         ·intro ee
          refine zI (nR (zH (zH (zH (zH (zc ((ih (n - p) zo) B_ j ae p n z2 _ d c zo zo zo (by exact (Low.keep (i6.keep l4) l).part zo) zo (by rfl)) ?_))))))
          rintro _ er ⟨ct, rfl, bt, cb, co, am⟩
          replace o := o.trans2 am (fun k e => i k e)
          have q := am.below q d (fun k e => (World.ownsRow.lt c k e).1)
          replace d := Nat.le_trans d am.size
          have c := bt
          have t := cb; have hS := co; have ai := t.len
          refine nQ (zV (zH (zad n 1 (zI (zS (zJ (zD ⟨_, zo, (n + 1), r, z2, true, ah, ct, rfl, y, zk, c, q, o, d, zo, ?_, ?_, ?_, ?_⟩)))))))
          ·exact t.len.trans (l.len.trans l3)
          ·exact i4.trans ((l4.trans (l.trans (t.mono zo zo zo))).mono zo zo zo)
          ·exact Jd.right (i5.keep (l4.trans (l.trans (t.mono zo zo zo))) zo zo zo) (u.keepL t zo zo) zo zo hS
          ·exact (u.keepL t zo zo).low (Nat.le_refl _)
         ·intro es
          refine zI (nR (zH (zH (zH (zH (zc ((ih (n - p) zo) B_ j ae p n z2 _ d c zo zo zo (by exact (Low.keep (i6.keep l4) l).part zo) zo (by rfl)) ?_))))))
          rintro _ ek ⟨bu, rfl, bx, b9, ci, au⟩
          replace o := o.trans2 au (fun k e => i k e)
          have q := au.below q d (fun k e => (World.ownsRow.lt c k e).1)
          replace d := Nat.le_trans d au.size
          have c := bx
          have t := b9; have hS := ci; have ai := t.len
          refine nQ (zV (zH (zad n 1 (zI (zS (zJ (zD ⟨_, zo, (n + 1), r, z2, false, ah, bu, rfl, y, zk, c, q, o, d, zo, ?_, ?_, ?_, ?_⟩)))))))
          ·exact t.len.trans (l.len.trans l3)
          ·exact i4.trans ((l4.trans (l.trans (t.mono zo zo zo))).mono zo zo zo)
          ·exact Jd.right (i5.keep (l4.trans (l.trans (t.mono zo zo zo))) zo zo zo) (u.keepL t zo zo) zo zo hS
          ·exact (u.keepL t zo zo).low (Nat.le_refl _)
        ·intro el
         refine nQ (zF (wR (zH (zH (nGe (r - n) ((r - p) / 8) ?_ ?_)))))
         ·intro ew
          refine zI (nR (zH (zH (zad n 1 (zH (zH (zc ((ih (r - (n + 1)) zo) B_ j ae (n + 1) r z2 _ d c zo zo zo (by exact Mid.low u zo) zo (by rfl)) ?_)))))))
          rintro _ ed ⟨b0, rfl, b8, bw, cd, aq⟩
          replace o := o.trans2 aq (fun k e => i k e)
          have q := aq.below q d (fun k e => (World.ownsRow.lt c k e).1)
          replace d := Nat.le_trans d aq.size
          have c := b8
          have t := bw; have hS := cd; have ai := t.len
          refine nQ (zV (zH (zI (zS (zJ (zD ⟨_, zo, p, n, z2, true, ah, b0, rfl, y, zk, c, q, o, d, zo, ?_, ?_, ?_, ?_⟩))))))
          ·exact t.len.trans (l.len.trans l3)
          ·exact i4.trans ((l4.trans (l.trans (t.mono zo zo zo))).mono zo zo zo)
          ·exact Jd.left (i5.keep (l4.trans (l.trans (t.mono zo zo zo))) zo zo zo) (u.keepR t zo) zo zo hS
          ·exact (i6.keep (l4.trans (l.trans (t.mono zo zo zo)))).part zo
         ·intro ep
          refine zI (nR (zH (zH (zad n 1 (zH (zH (zc ((ih (r - (n + 1)) zo) B_ j ae (n + 1) r z2 _ d c zo zo zo (by exact Mid.low u zo) zo (by rfl)) ?_)))))))
          rintro _ et ⟨cp, rfl, ck, cn, cc, ar⟩
          replace o := o.trans2 ar (fun k e => i k e)
          have q := ar.below q d (fun k e => (World.ownsRow.lt c k e).1)
          replace d := Nat.le_trans d ar.size
          have c := ck
          have t := cn; have hS := cc; have ai := t.len
          refine nQ (zV (zH (zI (zS (zJ (zD ⟨_, zo, p, n, z2, false, ah, cp, rfl, y, zk, c, q, o, d, zo, ?_, ?_, ?_, ?_⟩))))))
          ·exact t.len.trans (l.len.trans l3)
          ·exact i4.trans ((l4.trans (l.trans (t.mono zo zo zo))).mono zo zo zo)
          ·exact Jd.left (i5.keep (l4.trans (l.trans (t.mono zo zo zo))) zo zo zo) (u.keepR t zo) zo zo hS
          ·exact (i6.keep (l4.trans (l.trans (t.mono zo zo zo)))).part zo
theorem c_pdq (B_ : Nat) (c : Value) (s : List (Int)) (a : Nat) (b : Nat) (z : Nat) (w : World) (hs0 : B_ ≤ w.heap.size) (d : Row w B_ 21 1 encI32 c s) (h1 : a ≤ b) (h2 : b ≤ s.length) (h3 : s.length ≤ 2305843009213693951) (hlow : Low s a b) (hzl : z ≤ 1000) :
  Calls Tryz.prog 113 #[c, (N6 a), (N6 b), (N6 z)] w (Ret fun v w' => ∃ (ys : List (Int)), v = (.tuple #[]) ∧ Row w' B_ 21 1 encI32 c ys ∧ (Sw a b s ys) ∧ (Srt ys a b) ∧ Ch (fun k => Value.ownBlock c = some k) w w') :=
 c_pdq_r _ B_ c s a b z w hs0 d h1 h2 h3 hlow hzl rfl
end Go.Proofs.YtddnhlobnembaaaGreatDoor
end
