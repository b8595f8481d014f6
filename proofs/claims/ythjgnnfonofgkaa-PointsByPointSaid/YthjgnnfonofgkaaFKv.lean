/- FKv: scopes with jumps, characters as texts, contracts of the library's calls on lines. My own text. -/
import Derived.Test.YthjgnnfonofgkaaFKw
import Derived.Scope
import Derived.Shelf.Strings.SlTrimAscii
namespace Go.FK
open Go Go.RowKit
def jmpQ (J : Nat → Fm → World → Prop) (Q : Post) : Post
  | .goto l, s, w => J l s w
  | e, s, w => Q e s w
section
variable {r : Option Nat} {P : Program} {n : Nat} {Q : Post} {s : Fm} {w : World}
theorem jmpQ_normal {J : Nat → Fm → World → Prop} (h : Q .normal s w) : jmpQ J Q .normal s w := h
theorem jmpQ_ret {J : Nat → Fm → World → Prop} (h : Q .ret s w) : jmpQ J Q .ret s w := h
theorem jmpQ_exit {J : Nat → Fm → World → Prop} {id : Nat} (h : Q (.exit id) s w) : jmpQ J Q (.exit id) s w := h
theorem jmpQ_goto {J : Nat → Fm → World → Prop} {l : Nat} (h : J l s w) : jmpQ J Q (.goto l) s w := h
theorem stepR_scope' {b : Frame} {a : Act} {k : List Item} {cs : List Frame} {P : Program} {c : Code} {w : World} : step P (lone (b.atR a (.code (.scope c) :: k)) cs w) = .next (lone (b.atR a (.code c :: .inScope c :: k)) cs w) :=
  step_lone_go (by simp [stepG, stepG.exec, Frame.atR])
theorem stepR_inScope' {b : Frame} {a : Act} {k : List Item} {cs : List Frame} {P : Program} {c : Code} {w : World} : step P (lone (b.atR a (.inScope c :: k)) cs w) = .next (lone (b.atR a k) cs w) :=
  step_lone_go (by simp [stepG, stepG.exec, Frame.atR])
/-- A scope in which the run jumps between labels: what holds at each, with a number that every pass lowers. -/
theorem W_scope {c : Code} (I : Nat → Nat → Fm → World → Prop) (first : W r P n c (jmpQ (fun l s w => ∃ m, I l m s w) Q) s w)
    (pass : ∀ l m s w, I l m s w → ∃ rest, findLabel c l = some rest ∧ W r P n rest (jmpQ (fun l' s' w' => ∃ m', m' < m ∧ I l' m' s' w') Q) s w) : W r P n (.scope c) Q s w := by
  rw [W_iff]
  intro b k cs hro hb hr
  have key : ∀ m l s w, I l m s w → ∃ rest, findLabel c l = some rest ∧ ∃ e a' w', upQ n Q e a' w' ∧ ArrivesIn (Machine.fenced P (Fw r)) P (lone (b.atR (s.act n) (.code rest :: .inScope c :: k)) cs w) b k cs e a' w' := by
    intro m
    induction m using Nat.strongRecOn with
    | _ m ih =>
      intro l s w hI
      obtain ⟨rest, hf, hW⟩ := pass l m s w hI
      refine ⟨rest, hf, ?_⟩
      obtain ⟨e, a₁, w₁, ⟨s₁, rfl, hq⟩, harr⟩ := (W_iff.1 hW) b (.inScope c :: k) cs hro hb hr
      cases e with
      | normal => exact ⟨.normal, _, w₁, ⟨s₁, rfl, hq⟩, StepsIn.trans harr (.one (fenced_calm hb hr rfl) stepR_inScope')⟩
      | goto l' =>
        obtain ⟨m', hlt, hI'⟩ := hq
        obtain ⟨rest', hf', e₂, a₂, w₂, hq₂, harr₂⟩ := ih m' hlt l' s₁ w₁ hI'
        have hg : gotoIn l' (.inScope c :: k) = some (.code rest' :: .inScope c :: k) := by simp [gotoIn, hf']
        exact ⟨e₂, a₂, w₂, hq₂, .of_steps (harr.1 _ hg) harr₂⟩
      | exit id =>
        have hx : exitTo id (.inScope c :: k) = exitTo id k := by simp [exitTo]
        exact ⟨_, _, w₁, ⟨s₁, rfl, hq⟩, fun k' hk => harr.1 k' (by rw [hx]; exact hk), fun hr' hk => harr.2 hr' (by rw [hx]; exact hk)⟩
      | ret => exact ⟨_, _, w₁, ⟨s₁, rfl, hq⟩, harr⟩
      | panic ch => exact ⟨_, _, w₁, ⟨s₁, rfl, hq⟩, harr⟩
      | outgrown => exact ⟨_, _, w₁, ⟨s₁, rfl, hq⟩, harr⟩
  obtain ⟨e, a₁, w₁, ⟨s₁, rfl, hq⟩, harr⟩ := (W_iff.1 first) b (.inScope c :: k) cs hro hb hr
  have h0 : (lone (b.atR (s.act n) (.code (.scope c) :: k)) cs w).fenced P (Fw r) := fenced_calm hb hr rfl
  cases e with
  | normal => exact ⟨.normal, _, w₁, ⟨s₁, rfl, hq⟩, .head h0 stepR_scope' (StepsIn.trans harr (.one (fenced_calm hb hr rfl) stepR_inScope'))⟩
  | goto l' =>
    obtain ⟨m', hI'⟩ := hq
    obtain ⟨rest', hf', e₂, a₂, w₂, hq₂, harr₂⟩ := key m' l' s₁ w₁ hI'
    have hg : gotoIn l' (.inScope c :: k) = some (.code rest' :: .inScope c :: k) := by simp [gotoIn, hf']
    exact ⟨e₂, a₂, w₂, hq₂, .of_steps (.head h0 stepR_scope' (harr.1 _ hg)) harr₂⟩
  | exit id =>
    have hx : exitTo id (.inScope c :: k) = exitTo id k := by simp [exitTo]
    exact ⟨_, _, w₁, ⟨s₁, rfl, hq⟩, fun k' hk => .head h0 stepR_scope' (harr.1 k' (by rw [hx]; exact hk)),
      fun hr' hk => let ⟨k₁, h1, h2⟩ := harr.2 hr' (by rw [hx]; exact hk); ⟨k₁, h1, .head h0 stepR_scope' h2⟩⟩
  | ret => exact ⟨_, _, w₁, ⟨s₁, rfl, hq⟩, .of_steps (.one h0 stepR_scope') harr⟩
  | panic ch => exact ⟨_, _, w₁, ⟨s₁, rfl, hq⟩, .of_steps (.one h0 stepR_scope') harr⟩
  | outgrown => exact ⟨_, _, w₁, ⟨s₁, rfl, hq⟩, .of_steps (.one h0 stepR_scope') harr⟩
end
section ops
variable {r : Option Nat} {P : Program} {n : Nat} {Q : Post} {s : Fm} {w : World} {ops : Array Oper} {rest : List Oper}
variable {d : Option Tmp} {ty : TypeId} {pos : String} {af : Array Edge}
/-- 'string(r)' of a character. -/
theorem L_runeStr {a b : Nat} {X : Operand} (x : Int) (hx : s.ev n X = .int .i32 x) (ha : P.underlying a = some (.int .i32)) (hb : P.underlying b = some .string)
    (h : L r P n ops Q rest (s.put d (S (encL [x]))) w) : L r P n ops Q (⟨d, .convert a b X, ty, pos, af, none⟩ :: rest) s w := by
  refine L_val _ w (by simp) ?_ h
  have hrun : (convert a b (.int .i32 x)).run P w = .ok (S (encL [x])) w := by
    simp [convert, run_underlying ha, run_underlying hb, encL, S, Conv.intToString]
  simp only [execOp, hx, Sem.run_bind, hrun, Result.andThen_ok, Sem.run_pure]
end ops
/-! ### the library -/
theorem hasPrefix_contract {P : Program} {f : FuncId} (h1 : ∀ (s p : ByteArray) (w : World), Calls P f #[.string s, .string p] w fun e w' => e = .returned (.bool (Lib.hasPrefix s.data.toList p.data.toList)) ∧ w' = w) (s p : List UInt8) (w : World) :
    Calls P f #[S s, S p] w (Ret fun v w' => v = .bool (p.isPrefixOf s) ∧ Below w.heap.size w w') := by
  refine (h1 ⟨s.toArray⟩ ⟨p.toArray⟩ w).mono ?_
  rintro e w' ⟨rfl, rfl⟩
  exact ⟨_, rfl, rfl, Below.refl _ _⟩
theorem index_byte (s : List UInt8) (c : UInt8) : Lib.indexByte s c = Lib.index s [c] := by
  induction s with
  | nil => rfl
  | cons b l ih =>
    rw [Lib.indexByte, Lib.index, ih]
    have : ([c].isPrefixOf (b :: l)) = (b == c) := by simp [List.isPrefixOf, Bool.beq_comm]
    rw [this]
theorem index1_contract {P : Program} {f : FuncId} (h1 : ∀ (s : ByteArray) (c : UInt8) (w : World), Calls P f #[.string s, .string ⟨#[c]⟩] w fun e w' => e = .returned (.int .i64 (Lib.indexByte s.data.toList c)) ∧ w' = w) (s sep : List UInt8) (w : World) (h : sep.length = 1) :
    Calls P f #[S s, S sep] w (Ret fun v w' => v = .int .i64 (Lib.index s sep) ∧ Below w.heap.size w w') := by
  obtain ⟨c, rfl⟩ := List.length_eq_one_iff.1 h
  refine (h1 ⟨s.toArray⟩ c w).mono ?_
  rintro e w' ⟨rfl, rfl⟩
  exact ⟨_, rfl, by rw [← index_byte], Below.refl _ _⟩
theorem trim_contract {P : Program} {f : FuncId}
    (h1 : ∀ (s cutset : ByteArray) (w : World), s.size ≤ 9223372036854775807 → cutset.size < 4294967281 → (∀ (j : Nat) (b : UInt8), cutset.data.toList[j]? = some b → b.toNat < 128) →
      Calls P f #[.string s, .string cutset] w fun e w' => e = .returned (.string ⟨(Lib.trimS s.data.toList cutset.data.toList).toArray⟩) ∧ Below w.heap.size w w')
    (s c : List UInt8) (w : World) (ha : c.all (fun b => decide (b.toNat < 128)) = true) (hs : s.length ≤ 1073741824) (hc : c.length ≤ 1073741824) :
    Calls P f #[S s, S c] w (Ret fun v w' => v = S (Lib.trimS s c) ∧ Below w.heap.size w w') := by
  refine (h1 ⟨s.toArray⟩ ⟨c.toArray⟩ w (by rw [size_mk]; omega) (by rw [size_mk]; omega) (Go.Proofs.ascii_of_all ha)).mono ?_
  rintro e w' ⟨rfl, h⟩
  exact ⟨_, rfl, rfl, h⟩
end Go.FK
