/- FKo: maps from whole numbers to whole numbers, made by the call itself, whose keys are laid once: made, looked up, laid. My own text. -/
import Derived.Test.YtjdcmeoiommglaaDoorFKu
import Derived.MapKept
import Derived.Carry
set_option linter.unusedVariables false
namespace Go.FK
open Go Go.RowKit
def mEnt (k v : IntKind) : List (Int × Int) → Nat → List MapEntry
  | [], _ => []
  | p :: l, i => ⟨.int k p.1, .int v p.2, i⟩ :: mEnt k v l (i + 1)
def mapObj (k v : IntKind) (l : List (Int × Int)) : Obj := .map (mEnt k v l 0).toArray l.length
def midx : List (Int × Int) → Int → Option (Nat × Int)
  | [], _ => none
  | p :: l, x => if x = p.1 then some (0, p.2) else (midx l x).map fun q => (q.1 + 1, q.2)
def mget (l : List (Int × Int)) (x : Int) : Option Int := (midx l x).map (·.2)
theorem mEnt_len (k v : IntKind) : ∀ (l : List (Int × Int)) (i : Nat), (mEnt k v l i).length = l.length
  | [], _ => rfl
  | p :: l, i => by rw [mEnt, List.length_cons, mEnt_len k v l (i + 1), List.length_cons]
theorem mEnt_app (k v : IntKind) : ∀ (l : List (Int × Int)) (i : Nat) (p : Int × Int), mEnt k v (l ++ [p]) i = mEnt k v l i ++ [⟨.int k p.1, .int v p.2, i + l.length⟩]
  | [], i, p => rfl
  | q :: l, i, p => by rw [List.cons_append, mEnt, mEnt_app k v l (i + 1) p, mEnt, List.cons_append, List.length_cons]; congr 4; omega
theorem find_ent (k v : IntKind) (x : Int) : ∀ (l : List (Int × Int)) (i j : Nat), Instr.findNow (.int k) (.int k x) (mEnt k v l i) j = some ((midx l x).map fun q => (j + q.1, .int v q.2))
  | [], i, j => rfl
  | p :: l, i, j => by
    rw [mEnt, midx]
    simp only [Instr.findNow, Instr.sameNow, if_true]
    by_cases h : x = p.1
    · rw [if_pos h]; simp [h]
    · have hb : (x == p.1) = false := by simpa using h
      rw [if_neg h, hb]
      simp only
      rw [find_ent k v x l (i + 1) (j + 1)]
      cases midx l x with
      | none => rfl
      | some q => simp; omega
theorem run_checkInt {P : Program} {w : World} {kt : TypeId} {k : IntKind} (hk : P.underlying kt = some (.int k)) (x : Int) (e : Bool) (n : Nat) : (Instr.checkKey e (n + 1) kt (.int k x)).run P w = .ok () w := by
  unfold Instr.checkKey
  simp [run_underlying hk]
theorem run_findInt {P : Program} {w : World} {kt : TypeId} {k v : IntKind} (hk : P.underlying kt = some (.int k)) (x : Int) (l : List (Int × Int)) : (Instr.findKey kt (.int k x) (mEnt k v l 0)).run P w = .ok ((midx l x).map fun q => (q.1, Value.int v q.2)) w := by
  unfold Instr.findKey
  simp only [Sem.run_bind, run_underlying hk, Result.andThen_ok, find_ent]
  simp
section ops
variable {r : Option Nat} {P : Program} {n : Nat} {Q : Post} {s : Fm} {w : World} {ops : Array Oper} {rest : List Oper}
variable {d : Option Tmp} {ty : TypeId} {pos : String} {af : Array Edge}
theorem L_mkmap {T : TypeId} (k v : IntKind) (h : ∀ b w', New w w' b (mapObj k v []) → L r P n ops Q rest (s.put d (.map (some b))) w') :
    L r P n ops Q (⟨d, .makeMap T none, ty, pos, af, none⟩ :: rest) s w :=
  L_new (fun b => .map (some b)) (mapObj k v []) (by simp only [execOp, Option.map_none, Sem.run_bind, run_makeMap, Result.andThen_ok, Sem.run_pure]; rfl) rfl h
/-- A number looked up, with the word whether it is there. -/
theorem L_mlook {T kt et : TypeId} {X Y : Operand} {k v : IntKind} (b : Nat) (x : Int) (l : List (Int × Int)) (ht : P.underlying T = some (.map kt et)) (hk : P.underlying kt = some (.int k)) (hz : (P.info? et).map (·.zero) = some (some (.int v 0)))
    (hb : w.heap[b]? = some (mapObj k v l)) (hX : s.ev n X = .map (some b)) (hY : s.ev n Y = .int k x)
    (h : L r P n ops Q rest (s.put d (.tuple #[.int v ((mget l x).getD 0), .bool (mget l x).isSome])) w) :
    L r P n ops Q (⟨d, .lookup T X Y true, ty, pos, af, none⟩ :: rest) s w := by
  refine L_val _ w (by simp) ?_ h
  have hzv : (zeroValue et).run P w = .ok (.int v 0) w := by
    cases hq : P.info? et with
    | none => rw [hq] at hz; cases hz
    | some i =>
      rw [hq] at hz
      simp only [Option.map_some, Option.some.injEq] at hz
      simp [zeroValue, typeInfo, hq, program, Sem.run_bind, Sem.run_pure, Sem.run, hz]
  have hg := MapKept.run_getObj_map (P := P) (w := w) (r := b) (es := (mEnt k v l 0).toArray) (clock := l.length) hb
  simp only [execOp, hX, hY, Instr.lookup, Sem.run_bind, run_underlying ht, hg, Result.andThen_ok, Sem.run_pure, run_checkInt hk, run_findInt hk]
  unfold mget
  cases midx l x with
  | none => simp only [Option.map_none, Sem.run_bind, hzv, Result.andThen_ok, Sem.run_pure]; rfl
  | some q => simp only [Option.map_some, Sem.run_pure, Result.andThen_ok]; rfl
/-- A number that was not there is laid. -/
theorem L_mlay {T kt et : TypeId} {X Y Z : Operand} {k v : IntKind} (b : Nat) (x y : Int) (l : List (Int × Int)) (ht : P.underlying T = some (.map kt et)) (hk : P.underlying kt = some (.int k))
    (hb : w.heap[b]? = some (mapObj k v l)) (hX : s.ev n X = .map (some b)) (hY : s.ev n Y = .int k x) (hZ : s.ev n Z = .int v y) (hno : mget l x = none)
    (h : ∀ w', Wrote w w' b (mapObj k v (l ++ [(x, y)])) → L r P n ops Q rest (s.put d undef) w') :
    L r P n ops Q (⟨d, .mapUpdate T X Y Z, ty, pos, af, none⟩ :: rest) s w := by
  have hn : midx l x = none := by
    unfold mget at hno
    cases hq : midx l x with
    | none => rfl
    | some q => rw [hq] at hno; cases hno
  have hg := MapKept.run_getObj_map (P := P) (w := w) (r := b) (es := (mEnt k v l 0).toArray) (clock := l.length) hb
  have hs := MapKept.run_setObj_map (P := P) (w := w) (r := b) (es := (mEnt k v l 0).toArray) (clock := l.length) (mapObj k v (l ++ [(x, y)])) hb
  have ho : mapObj k v (l ++ [(x, y)]) = .map ((mEnt k v l 0).toArray.push ⟨.int k x, .int v y, l.length⟩) (l.length + 1) := by
    unfold mapObj
    rw [mEnt_app, List.length_append, Nat.zero_add]; simp
  have hlt := (Array.getElem?_eq_some_iff.1 hb).1
  refine L_unit { w with heap := w.heap.setIfInBounds b (mapObj k v (l ++ [(x, y)])) } (by simp) ?_ (h _ ⟨rfl, rfl, rfl, by simp, ?_, fun j hj => ?_⟩)
  · simp only [execOp, hX, hY, hZ, Instr.mapUpdate, Sem.run_bind, run_underlying ht, hg, Result.andThen_ok, Sem.run_pure, run_checkInt hk, run_findInt hk, hn, Option.map_none]
    rw [← ho, hs]; rfl
  · simp [hlt]
  · show (w.heap.setIfInBounds b _)[j]? = _
    rw [Array.getElem?_setIfInBounds]
    rw [if_neg (fun e => hj e.symm)]
end ops
end Go.FK
