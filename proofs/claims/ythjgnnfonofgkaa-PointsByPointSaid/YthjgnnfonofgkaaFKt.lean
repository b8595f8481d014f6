/- FKt: regions that draw their order and hold a call that changes memory; least and greatest of two. My own text. -/
import Derived.Test.YthjgnnfonofgkaaFKs
import Derived.Test.YthjgnnfonofgkaaFKn
import Derived.Laws.StructEq
namespace Go.FK
open Go Go.RowKit
/-- What an operation hands on is no row of the library and no round. -/
def plainB : Result Next → Bool
  | .ok (.row ..) _ => false
  | .ok (.round ..) _ => false
  | _ => true
section
variable {P : Program} {n : Nat} {Q : Post} {s : Fm} {w : World} {ops : Array Oper} {S : World → Prop} {fuel : Nat} {listed : Array Bool}
theorem plain_store {d : Option Tmp} {t : TypeId} {X Y : Operand} {ty : TypeId} {pos : String} {af : Array Edge} : plainB ((execOp (s.ev n) ⟨d, .store t X Y, ty, pos, af, none⟩).run P w) = true := by
  simp only [execOp, Sem.run_bind]
  cases h : Sem.run P (Instr.storeAt t (s.ev n X) (s.ev n Y)) w with
  | ok v w' => rfl
  | halt x w' => rfl
def Hop (P : Program) (n : Nat) (ops : Array Oper) (Q : Post) (S : World → Prop) (fuel : Nat) (listed : Array Bool) (i : Nat) (s : Fm) (w : World) : Prop :=
  wpOp P ops (upQ n Q) i (fun a' w' => S w' ∧ wpAnyH P .any ops (upQ n Q) S fuel (listed.setIfInBounds i true) a' w') (s.act n) w
theorem H_all1 (i : Nat) (hr : Region.ready .any ops listed = [i]) (h : Hop P n ops Q S fuel listed i s w) : Lh P n ops Q S (fuel + 1) listed s w := by
  refine wpAnyH_all hr (by simp) ?_
  intro j hj
  obtain rfl : j = i := by simpa using hj
  exact h
theorem H_all2 (i k : Nat) (hr : Region.ready .any ops listed = [i, k]) (h : Hop P n ops Q S fuel listed i s w) (h2 : Hop P n ops Q S fuel listed k s w) : Lh P n ops Q S (fuel + 1) listed s w := by
  refine wpAnyH_all hr (by simp) ?_
  intro j hj
  simp only [List.mem_cons, List.not_mem_nil, or_false] at hj
  rcases hj with rfl | rfl
  · exact h
  · exact h2
/-- One operation of the region, by the laws of operations that come in their order. -/
theorem H_op (i : Nat) {d : Option Tmp} {op : Op} {ty : TypeId} {pos : String} {af : Array Edge} (hi : ops[i]? = some ⟨d, op, ty, pos, af, none⟩) (hd : notDefer op = true) (hp : plainB ((execOp (s.ev n) ⟨d, op, ty, pos, af, none⟩).run P w) = true)
    (h : L none P n ops (fun e s' w' => e = .normal ∧ S w' ∧ Lh P n ops Q S fuel (listed.setIfInBounds i true) s' w') [⟨d, op, ty, pos, af, none⟩] s w) : Hop P n ops Q S fuel listed i s w := by
  unfold Hop wpOp
  rw [hi]
  simp only [Region.wanted, if_true]
  left
  unfold Oper.wp
  rw [act_eval]
  rw [L_iff] at h
  unfold wpListIn at h
  rw [if_pos (by simp [Region.wanted])] at h
  obtain ⟨_, h⟩ := h
  rw [Oper.semAt_eq _ _ _ (notDefer_ne hd), act_eval] at h
  have key : ∀ {a w'}, wpListIn (Fw none) 0 P ops (upQ n fun e s' w' => e = .normal ∧ S w' ∧ Lh P n ops Q S fuel (listed.setIfInBounds i true) s' w') [] a w' → S w' ∧ wpAnyH P .any ops (upQ n Q) S fuel (listed.setIfInBounds i true) a w' := by
    rintro a w' ⟨s', rfl, _, hS, hL⟩
    exact ⟨hS, hL⟩
  generalize (execOp (s.ev n) ⟨d, op, ty, pos, af, none⟩).run P w = r at h hp
  cases r with
  | ok x w' =>
    cases x with
    | value v => exact key h
    | skip => exact key h
    | defer dd => exact key h
    | enter f args =>
      have h2 := h.2
      refine calls_fw.1 (CallsIn.mono h2 ?_)
      intro e w'' he
      cases e with
      | returned v => exact key he
      | panicked c => obtain ⟨s', _, he, _⟩ := he; cases he
      | outgrown =>
        exfalso
        obtain ⟨_, _, s', _, he, _⟩ := he
        cases he
    | row _ _ => cases hp
    | round => cases hp
    | recover => exact h.elim
    | spawn => exact h.elim
    | comm => exact h.elim
    | numGoroutine => exact h.elim
    | collect => exact h.elim
    | watch => exact h.elim
    | newcoro => exact h.elim
    | coroswitch => exact h.elim
    | sleep => exact h.elim
    | timer => exact h.elim
    | alone => exact h.elim
    | callThen => exact h.elim
    | stack => exact h.elim
  | halt x w' =>
    cases x <;> first | (obtain ⟨s', _, he, _⟩ := h; cases he) | exact h.elim
end
section run
variable {P : Program} {n : Nat} {s : Fm} {w : World} {d : Option Tmp} {ty : TypeId} {pos : String} {af : Array Edge} {g : Option (Nat × Bool)} {S : World → Prop}
theorem R_loadA {t : TypeId} {X : Operand} (b o : Nat) (vs : List Value) (hx : s.ev n X = .pointer (some ⟨b, o, none⟩)) (ha : ∀ w, (isAgg t).run P w = .ok true w) (hz : ∀ w, (sizeOf t).run P w = .ok vs.length w)
    (hc : ∀ w', S w' → ∀ j u, vs[j]? = some u → w'.cell? ⟨b, o + j, none⟩ = some u) : RunOk P n ⟨d, .load t X, ty, pos, af, g⟩ s S (.agg vs.toArray) := by
  intro w' hw'
  have hl := run_loadCells_list (P := P) (w := w') ⟨b, o, none⟩ vs (fun j u hu => by rw [add_lit]; exact hc w' hw' j u hu)
  simp only [execOp, hx, Instr.loadAt, Instr.sureAddr, loadVar, Sem.run_bind, Sem.run_pure, Result.andThen_ok, ha, if_true, hz, hl]
end run
section ops
variable {r : Option Nat} {P : Program} {n : Nat} {Q : Post} {s : Fm} {w : World} {ops : Array Oper} {rest : List Oper}
variable {d : Option Tmp} {ty : TypeId} {pos : String} {af : Array Edge}
theorem L_min {X Y : Operand} {ats : Array TypeId} {k : IntKind} (x y : Int) (hx : s.ev n X = .int k x) (hy : s.ev n Y = .int k y) (h : L r P n ops Q rest (s.put d (.int k (min x y))) w) :
    L r P n ops Q (⟨d, .call ⟨.builtin .min, #[X, Y], ats⟩, ty, pos, af, none⟩ :: rest) s w := by
  refine L_val _ w (by simp) ?_ h
  have e : (if y < x then y else x) = min x y := by omega
  simp [execOp, resolve, invoke, builtin, Builtin.min_, Builtin.min2, hx, hy, Sem.run_pure, Sem.run_bind, e]
theorem L_max {X Y : Operand} {ats : Array TypeId} {k : IntKind} (x y : Int) (hx : s.ev n X = .int k x) (hy : s.ev n Y = .int k y) (h : L r P n ops Q rest (s.put d (.int k (max x y))) w) :
    L r P n ops Q (⟨d, .call ⟨.builtin .max, #[X, Y], ats⟩, ty, pos, af, none⟩ :: rest) s w := by
  refine L_val _ w (by simp) ?_ h
  have e : (if y > x then y else x) = max x y := by omega
  simp [execOp, resolve, invoke, builtin, Builtin.max_, Builtin.max2, hx, hy, Sem.run_pure, Sem.run_bind, e]
end ops
end Go.FK
namespace Go.FK
theorem plain_load {P : Program} {n : Nat} {s : Fm} {w : World} {d : Option Tmp} {t : TypeId} {X : Operand} {ty : TypeId} {pos : String} {af : Array Edge} : plainB ((execOp (s.ev n) ⟨d, .load t X, ty, pos, af, none⟩).run P w) = true := by
  simp only [execOp, Sem.run_bind]
  cases h : Sem.run P (Instr.loadAt t (s.ev n X)) w with
  | ok v w' => rfl
  | halt x w' => rfl
end Go.FK
namespace Go.FK
section ops
variable {r : Option Nat} {P : Program} {n : Nat} {Q : Post} {s : Fm} {w : World} {ops : Array Oper} {rest : List Oper}
variable {d : Option Tmp} {ty : TypeId} {pos : String} {af : Array Edge}
/-- A slice held against nil. -/
theorem L_snil {α : Type} {T yt : TypeId} {X Y : Operand} {enc : α → List Value} (v : Value) (xs : List α) (hr : Rd w enc v xs) (hX : s.ev n X = v) (hY : s.ev n Y = .slice none 0 0)
    (hq1 : ∀ (m c : Nat) (w : World), (binOp .eql T (.slice none m c) (.slice none 0 0)).run P w = .ok (.bool true) w) (hq2 : ∀ (a : Addr) (m c : Nat) (w : World), (binOp .eql T (.slice (some a) m c) (.slice none 0 0)).run P w = .ok (.bool false) w)
    (h1 : xs = [] → L r P n ops Q rest (s.put d (.bool true)) w) (h2 : L r P n ops Q rest (s.put d (.bool false)) w) : L r P n ops Q (⟨d, .binOp .eql T X Y yt, ty, pos, af, none⟩ :: rest) s w := by
  obtain ⟨a, c, rfl, h⟩ := hr
  cases a with
  | none =>
    have e : xs = [] := by
      rcases h with h | ⟨g, off, h, _⟩
      · exact List.eq_nil_of_length_eq_zero h
      · cases h
    refine L_val _ w (by simp) ?_ (h1 e)
    have hg : (eqGuard .eql T X Y (.slice none xs.length c) (.slice none 0 0)).run P w = .ok () w := rfl
    simp only [execOp, hX, hY, Sem.run_bind, hg, Result.andThen_ok, hq1, Sem.run_pure]
  | some a =>
    refine L_val _ w (by simp) ?_ h2
    have hg : (eqGuard .eql T X Y (.slice (some a) xs.length c) (.slice none 0 0)).run P w = .ok () w := rfl
    simp only [execOp, hX, hY, Sem.run_bind, hg, Result.andThen_ok, hq2, Sem.run_pure]
end ops
theorem Rd.ch {α : Type} {enc : α → List Value} {D : Nat → Prop} {K0 : Nat} {W0 A B : World} {v : Value} {xs : List α} (h0 : Rd W0 enc v xs) (hK : W0.heap.size ≤ K0) (h : Rd A enc v xs) (hc : Ch D A B) (hd : ∀ k, D k → K0 ≤ k) : Rd B enc v xs := by
  obtain ⟨a, c, hv, h1⟩ := h
  obtain ⟨a0, c0, hv0, h2⟩ := h0
  refine ⟨a, c, hv, ?_⟩
  rcases h1 with h1 | ⟨g, off, ha, hcells⟩
  · exact .inl h1
  · refine .inr ⟨g, off, ha, fun j u hu => ?_⟩
    have e : a0 = a := by rw [hv0] at hv; cases hv; rfl
    rcases h2 with h2 | ⟨g0, off0, ha0, hc0⟩
    · have : (xs.flatMap enc)[j]? = none := by rw [List.eq_nil_of_length_eq_zero h2]; rfl
      rw [this] at hu; cases hu
    · have hlt : g0 < W0.heap.size := World.block_lt_of_cell? W0 _ (hc0 j u hu)
      rw [e, ha] at ha0
      cases ha0
      exact cell_ch (hcells j u hu) hc (fun hD => by have h5 : K0 ≤ g := hd _ hD; omega)
end Go.FK
namespace Go.FK
section ops
variable {r : Option Nat} {P : Program} {n : Nat} {Q : Post} {s : Fm} {w : World} {ops : Array Oper} {rest : List Oper}
variable {d : Option Tmp} {ty : TypeId} {pos : String} {af : Array Edge}
/-- Two structs held against one another. -/
theorem L_aggeq {t yt : TypeId} {X Y : Operand} (xs ys : List Value) (b : Bool) (hx : s.ev n X = .agg xs.toArray) (hy : s.ev n Y = .agg ys.toArray) (hm : P.eqGuardType P.depth t = false)
    (hq : ∀ w, (Op.equalIn 10000 t (.agg xs.toArray) (.agg ys.toArray)).run P w = .ok b w)
    (ht : b = true → L r P n ops Q rest (s.put d (.bool true)) w) (hf : b = false → L r P n ops Q rest (s.put d (.bool false)) w) : L r P n ops Q (⟨d, .binOp .eql t X Y yt, ty, pos, af, none⟩ :: rest) s w := by
  have hg := run_eqGuard_agg (P := P) w .eql t X Y xs.toArray ys.toArray hm
  have hb := run_eql_struct (P := P) w t xs.toArray ys.toArray
  rw [hq] at hb
  cases b with
  | true => exact L_val _ w (by simp) (by simp only [execOp, hx, hy, Sem.run_bind, hg, Result.andThen_ok, hb, Sem.run_pure]) (ht rfl)
  | false => exact L_val _ w (by simp) (by simp only [execOp, hx, hy, Sem.run_bind, hg, Result.andThen_ok, hb, Sem.run_pure]) (hf rfl)
theorem L_aggne {t yt : TypeId} {X Y : Operand} (xs ys : List Value) (b : Bool) (hx : s.ev n X = .agg xs.toArray) (hy : s.ev n Y = .agg ys.toArray) (hm : P.eqGuardType P.depth t = false)
    (hq : ∀ w, (Op.equalIn 10000 t (.agg xs.toArray) (.agg ys.toArray)).run P w = .ok b w)
    (ht : b = false → L r P n ops Q rest (s.put d (.bool true)) w) (hf : b = true → L r P n ops Q rest (s.put d (.bool false)) w) : L r P n ops Q (⟨d, .binOp .neq t X Y yt, ty, pos, af, none⟩ :: rest) s w := by
  have hg := run_eqGuard_agg (P := P) w .neq t X Y xs.toArray ys.toArray hm
  have hb := run_neq_struct (P := P) w t xs.toArray ys.toArray
  rw [hq] at hb
  cases b with
  | true => exact L_val _ w (by simp) (by simp only [execOp, hx, hy, Sem.run_bind, hg, Result.andThen_ok, hb, Sem.run_pure, Bool.not_true]) (hf rfl)
  | false => exact L_val _ w (by simp) (by simp only [execOp, hx, hy, Sem.run_bind, hg, Result.andThen_ok, hb, Sem.run_pure, Bool.not_false]) (ht rfl)
end ops
end Go.FK
