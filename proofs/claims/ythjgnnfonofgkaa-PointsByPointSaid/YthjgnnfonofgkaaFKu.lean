/- FKu: regions that draw their order, in a round or not: what hangs on nothing is taken first, the rest in every order. My own text. -/
import Derived.Test.YthjgnnfonofgkaaFKv
import Derived.OrdersIn
namespace Go.FK
open Go Go.RowKit
def noDefers (ops : Array Oper) : Bool := ops.toList.all fun o => notDefer o.op
theorem ops_fw {r : Option Nat} {P : Program} {ops : Array Oper} {Q : Exit → Act → World → Prop} (hd : noDefers ops = true) :
    ∀ (l : List Nat) (a : Act) (w : World), wpOpsIn (Fw none) 0 P ops Q l a w → wpOpsIn (Fw r) 0 P ops Q l a w
  | [], a, w, h => h
  | i :: rest, a, w, h => by
    rw [wpOpsIn_cons] at h ⊢
    unfold wpOpIn at h ⊢
    cases ho : ops[i]? with
    | none => simp only [ho] at h ⊢; exact ops_fw hd rest a w h
    | some o =>
      simp only [ho] at h ⊢
      have hne : ∀ c, o.op ≠ .defer c := notDefer_ne (List.all_eq_true.1 hd o (by
        have := Array.mem_of_getElem? ho
        simpa using this))
      split
      · rename_i hw
        rw [if_pos hw] at h
        have h := Oper.wpIn_mono (fun a w => ops_fw (r := r) hd rest a w) h
        unfold Oper.wpIn at h ⊢
        refine ⟨fun _ _ => trivial, ?_⟩
        have h2 := h.2
        rw [Oper.semAt_eq _ _ _ hne] at h2 ⊢
        exact h2
      · rename_i hw
        rw [if_neg hw] at h
        exact ⟨fun _ _ => trivial, ops_fw hd rest _ w h.2⟩
section
variable {P : Program} {n : Nat} {Q : Post} {s : Fm} {w : World} {ops : Array Oper} {fuel : Nat} {listed : Array Bool}
def Li (P : Program) (n : Nat) (ops : Array Oper) (Q : Post) (fuel : Nat) (listed : Array Bool) (s : Fm) (w : World) : Prop := wpAnyIn (Fw none) 0 P .any ops (upQ n Q) fuel listed (s.act n) w
theorem W_draws {r : Option Nat} {id : Nat} {l : List Oper} (N : Nat) (hN : Nat.beq l.length N = true) (hm : P.follows .mixedOrders = true) (hd : noDefers l.toArray = true)
    (h : ∀ w', Below w.heap.size w w' → Li P n l.toArray Q N (Array.replicate N false) s w') : W r P n (.region id l.toArray true) Q s w := by
  refine W_iff.2 (wpIn_region_draw fun t => ops_fw hd _ _ _ ?_)
  have hS := h { w with drawn := w.drawn + 1 } (Below.refl _ _).drew
  have e : l.length = N := Nat.eq_of_beq_eq_true hN
  subst e
  simp only [Region.schedule, hm, Bool.true_or, if_true]
  exact wpAnyIn_sound _ t _ _ _ (by simpa [Li] using hS)
def noCall : Op → Bool
  | .call _ => false
  | _ => true
theorem about_none {o : Oper} (h : noCall o.op = true) (w : World) (ρ : Operand → Value) : o.about P w ρ = none := by
  unfold Oper.about
  cases ho : o.op <;> first | rfl | (rw [ho] at h; cases h)
theorem I_take (i : Nat) {o : Oper} (v : Value) (hi : ops[i]? = some o) (hs : Region.noSelect ops = true) (hf : Region.free .any ops listed i = true) (hr : (Region.ready .any ops listed).contains i = true)
    (hc : noCall o.op = true) (hq : NoPanic Q) (hw : wantB ops n s o.guard = true) (hrun : ∀ w', (execOp (s.ev n) o).run P w' = .ok (.value v) w') (h : Li P n ops Q fuel (listed.setIfInBounds i true) (s.put o.dst v) w) : Li P n ops Q (fuel + 1) listed s w := by
  unfold Li at h ⊢
  refine wpAnyIn_take (v := v) rfl hi hs hf hr ?_ ⟨.inl ⟨?_, ?_⟩, fun w => about_none hc w _⟩ ?_
  · intro c a w hp
    obtain ⟨s', _, hp⟩ := hp
    exact absurd hp (hq c s' w)
  · rw [wanted_want]; exact hw
  · intro w'; rw [act_eval]; exact hrun w'
  · rw [act_put]; exact h
theorem I_done (hr : Region.ready .any ops listed = []) (h : Q .normal s w) : Li P n ops Q fuel listed s w := wpAnyIn_done hr ⟨s, rfl, h⟩ fuel
def Iop (P : Program) (n : Nat) (ops : Array Oper) (Q : Post) (fuel : Nat) (listed : Array Bool) (i : Nat) (s : Fm) (w : World) : Prop :=
  wpOpIn (Fw none) 0 P ops (upQ n Q) i (wpAnyIn (Fw none) 0 P .any ops (upQ n Q) fuel (listed.setIfInBounds i true)) (s.act n) w
theorem I_all1 (i : Nat) (hr : Region.ready .any ops listed = [i]) (h : Iop P n ops Q fuel listed i s w) : Li P n ops Q (fuel + 1) listed s w :=
  wpAnyIn_all hr (by simp) fun j hj => by
    obtain rfl : j = i := by simpa using hj
    exact h
theorem I_all2 (i k : Nat) (hr : Region.ready .any ops listed = [i, k]) (h : Iop P n ops Q fuel listed i s w) (h2 : Iop P n ops Q fuel listed k s w) : Li P n ops Q (fuel + 1) listed s w :=
  wpAnyIn_all hr (by simp) fun j hj => by
    simp only [List.mem_cons, List.not_mem_nil, or_false] at hj
    rcases hj with rfl | rfl
    · exact h
    · exact h2
theorem I_all3 (i k m : Nat) (hr : Region.ready .any ops listed = [i, k, m]) (h : Iop P n ops Q fuel listed i s w) (h2 : Iop P n ops Q fuel listed k s w) (h3 : Iop P n ops Q fuel listed m s w) : Li P n ops Q (fuel + 1) listed s w :=
  wpAnyIn_all hr (by simp) fun j hj => by
    simp only [List.mem_cons, List.not_mem_nil, or_false] at hj
    rcases hj with rfl | rfl | rfl
    · exact h
    · exact h2
    · exact h3
/-- One operation of the region, by the laws of operations that come in their order. -/
theorem I_op (i : Nat) {o : Oper} (hi : ops[i]? = some o)
    (h : L none P n ops (fun e s' w' => e = .normal ∧ Li P n ops Q fuel (listed.setIfInBounds i true) s' w') [o] s w) (hg : o.guard = none) : Iop P n ops Q fuel listed i s w := by
  unfold Iop wpOpIn
  rw [hi]
  rw [L_iff] at h
  unfold wpListIn at h
  have hwant : Region.wanted o (yielded ops (s.act n).tmps) = true := by rw [wanted_want, hg]; rfl
  rw [if_pos hwant] at h
  simp only [hwant, if_true]
  have key : ∀ {a w'}, wpListIn (Fw none) 0 P ops (upQ n fun e s' w' => e = .normal ∧ Li P n ops Q fuel (listed.setIfInBounds i true) s' w') [] a w' → wpAnyIn (Fw none) 0 P .any ops (upQ n Q) fuel (listed.setIfInBounds i true) a w' := by
    rintro a w' ⟨s', rfl, _, hL⟩
    exact hL
  have h := Oper.wpIn_mono (fun a w => key) h
  unfold Oper.wpIn at h ⊢
  refine ⟨h.1, ?_⟩
  have h2 := h.2
  generalize (o.semAt (Fw none).round (s.act n).eval).run P w = r at h2
  cases r with
  | ok x w' =>
    cases x <;> simp only [Oper.uponIn] at h2 ⊢ <;> first
      | exact h2
      | exact ⟨h2.1, CallsIn.mono h2.2 (fun e w'' he => by
          cases e with
          | returned v => exact he
          | panicked c => obtain ⟨s', _, he, _⟩ := he; cases he
          | outgrown => exfalso; obtain ⟨_, _, s', _, he, _⟩ := he; cases he)⟩
      | exact ⟨h2.1, RoundIn.mono h2.2 (fun e w'' he => by
          cases e with
          | returned v => exact he
          | panicked c => obtain ⟨s', _, he, _⟩ := he; cases he
          | outgrown => exfalso; obtain ⟨_, _, s', _, he, _⟩ := he; cases he)⟩
  | halt x w' =>
    cases x <;> first
      | (exfalso; simp only [Oper.uponIn] at h2; obtain ⟨s', _, he, _⟩ := h2; cases he)
      | exact h2
end
end Go.FK
namespace Go.FK
theorem noPanic_jmp {J : Nat → Fm → World → Prop} {Q : Post} (h : NoPanic Q) : NoPanic (jmpQ J Q) := fun c s w hq => h c s w hq
end Go.FK
namespace Go.FK
attribute [irreducible] Iop Li
end Go.FK
