/- FKc: laws of operations on memory over functional frames: new blocks, boxes, loads, stores, rows of the call's own that grow, texts' bytes and pieces, ranges over texts. My own text. -/
import Derived.Test.YthjgnnfonofgkaaFKb
namespace Go.FK
open Go Go.RowKit

/-- w' is w and one block more. -/
structure New (w w' : World) (b : Nat) (o : Obj) : Prop where
  num : b = w.heap.size
  eq : w' = w.alloc o
theorem New.below {w w' : World} {b : Nat} {o : Obj} (h : New w w' b o) : Below w.heap.size w w' := by rw [h.eq]; exact (Below.refl _ _).alloc (Nat.le_refl _) _
theorem New.here {w w' : World} {b : Nat} {o : Obj} (h : New w w' b o) : w'.heap[b]? = some o := by rw [h.eq, h.num]; exact heap_alloc_new w o
theorem New.size {w w' : World} {b : Nat} {o : Obj} (h : New w w' b o) : w'.heap.size = w.heap.size + 1 := by rw [h.eq]; simp
theorem New.lt {w w' : World} {b : Nat} {o : Obj} (h : New w w' b o) : b < w'.heap.size := by rw [h.size, h.num]; omega

/-- w' is w but for block b, which holds o. -/
structure Wrote (w w' : World) (b : Nat) (o : Obj) : Prop where
  os : w'.os = w.os
  tape : w'.tape = w.tape
  output : w'.output = w.output
  size : w'.heap.size = w.heap.size
  here : w'.heap[b]? = some o
  other : ∀ k, k ≠ b → w'.heap[k]? = w.heap[k]?
theorem Wrote.below {w w' : World} {b B : Nat} {o : Obj} (h : Wrote w w' b o) (hb : B ≤ b) : Below B w w' :=
  ⟨h.os, h.tape, h.output, Nat.le_of_eq h.size.symm, fun k hk => h.other k (by omega)⟩

/-! ### facts carried on -/
theorem obj_below {w w' : World} {k : Nat} {o : Obj} (h : w.heap[k]? = some o) (hb : Below w.heap.size w w') : w'.heap[k]? = some o :=
  (hb.block k (Array.getElem?_eq_some_iff.1 h).1).trans h
theorem obj_lt {w : World} {k : Nat} {o : Obj} (h : w.heap[k]? = some o) : k < w.heap.size := (Array.getElem?_eq_some_iff.1 h).1
theorem obj_wrote {w w' : World} {k b : Nat} {o o' : Obj} (h : w.heap[k]? = some o) (hw : Wrote w w' b o') (hne : k ≠ b) : w'.heap[k]? = some o := (hw.other k hne).trans h
theorem obj_ne {w : World} {k b : Nat} {o o' : Obj} (h : w.heap[k]? = some o) (h' : w.heap[b]? = some o') (hne : o ≠ o') : k ≠ b := by
  rintro rfl; rw [h] at h'; exact hne (Option.some.inj h')

section rows
variable {w w' : World} {B E k m : Nat} {v : Value} {xs : List Value}
theorem row_below (h : w.ownsRow B E k v m xs) (hb : Below w.heap.size w w') : w'.ownsRow B E k v m xs := by
  refine ⟨h.1, ?_⟩
  rcases h.2 with h2 | ⟨g, cap, cur, hv, hg, hh, r⟩
  · exact .inl h2
  · exact .inr ⟨g, cap, cur, hv, hg, obj_below hh hb, r⟩
/-- The block of a row. -/
theorem row_block (h : w.ownsRow B E k v m xs) : v = .slice none 0 0 ∨ ∃ g cap cur, v = .slice (some ⟨g, 0, none⟩) m cap ∧ w.heap[g]? = some (.cells cur E (0, 0)) := by
  rcases h.2 with ⟨h2, _⟩ | ⟨g, cap, cur, hv, _, hh, _⟩
  · exact .inl h2
  · exact .inr ⟨g, cap, cur, hv, hh⟩
/-- A block that is no row of that element type is not this row's. -/
theorem row_ne {b : Nat} {o : Obj} (h : w.ownsRow B E k v m xs) (hb : w.heap[b]? = some o) (ho : ∀ cur, o ≠ .cells cur E (0, 0)) : v.ownBlock ≠ some b := by
  rcases row_block h with rfl | ⟨g, cap, cur, rfl, hh⟩
  · simp [Value.ownBlock]
  · intro e
    obtain rfl : g = b := by simpa [Value.ownBlock] using e
    rw [hb] at hh
    exact ho cur (Option.some.inj hh)
theorem row_wrote {b : Nat} {o : Obj} (h : w.ownsRow B E k v m xs) (hw : Wrote w w' b o) (hne : v.ownBlock ≠ some b) : w'.ownsRow B E k v m xs := by
  refine ⟨h.1, ?_⟩
  rcases h.2 with h2 | ⟨g, cap, cur, hv, hg, hh, r⟩
  · exact .inl h2
  · exact .inr ⟨g, cap, cur, hv, hg, (hw.other g (fun e => hne (by rw [hv, e]; rfl))).trans hh, r⟩
theorem row_len (h : w.ownsRow B E k v m xs) : ∃ a c, v = .slice a m c := by
  rcases h.2 with ⟨h2, h3⟩ | ⟨g, cap, cur, hv, _⟩
  · exact ⟨none, 0, by rw [h2, h3]⟩
  · exact ⟨_, _, hv⟩
/-- Where a row's cells lie. -/
def Lies (v : Value) (g off m : Nat) : Prop := ∃ c, v = .slice (some ⟨g, off, none⟩) m c
theorem row_lies (h : w.ownsRow B E k v m xs) (hm : 0 < m) : ∃ g, Lies v g 0 m ∧ B ≤ g ∧ ∀ j u, xs[j]? = some u → w.cell? ⟨g, j, none⟩ = some u := by
  rcases h.2 with ⟨_, h3⟩ | ⟨g, cap, cur, hv, hg, hr⟩
  · omega
  · refine ⟨g, ⟨cap, hv⟩, hg, fun j u hu => ?_⟩
    have := h.cells (g := g) (by rw [hv]; rfl) j u hu
    rwa [show (⟨g, 0, none⟩ : Addr).add j = ⟨g, j, none⟩ by unfold Addr.add; split <;> simp_all] at this
end rows

/-! ### lists -/
theorem get_some {α : Type} (l : List α) (i : Nat) (h : i < l.length) : ∃ x, l[i]? = some x := ⟨l[i], by simp [h]⟩
theorem map_at {α β : Type} {l : List α} {i : Nat} {x : α} (f : α → β) (h : l[i]? = some x) : (l.map f)[i]? = some (f x) := by simp [h]
theorem flat_at {α : Type} (f : α → List Value) (k : Nat) (hk : ∀ x, (f x).length = k) : ∀ (l : List α) (i : Nat) {x : α} (j : Nat), l[i]? = some x → j < k → (l.flatMap f)[i * k + j]? = (f x)[j]? := by
  intro l
  induction l with
  | nil => intro i x j h; simp at h
  | cons y l ih =>
    intro i x j h hj
    cases i with
    | zero =>
      simp at h; subst h
      rw [List.flatMap_cons, Nat.zero_mul, Nat.zero_add, List.getElem?_append_left (by rw [hk]; exact hj)]
    | succ i =>
      rw [List.flatMap_cons, List.getElem?_append_right (by rw [hk, Nat.succ_mul]; omega), hk]
      rw [show (i + 1) * k + j - k = i * k + j by rw [Nat.succ_mul]; omega]
      exact ih i j (by simpa using h) hj

theorem calls_as {P : Program} {f : FuncId} {args : Array Value} {w : World} {R R' : Value → World → Prop} (h : Calls P f args w (Ret R)) (e : R = R') : Calls P f args w (Ret R') := e ▸ h
theorem drop_some {α : Type} {l : List α} {k : Nat} {x : α} (h : l[k]? = some x) : l.drop k = x :: l.drop (k + 1) := by
  obtain ⟨hk, rfl⟩ := List.getElem?_eq_some_iff.1 h
  exact List.drop_eq_getElem_cons hk
theorem tup2 {a a' b b' : Value} (h1 : a = a') (h2 : b = b') : Value.tuple #[a, b] = .tuple #[a', b'] := by rw [h1, h2]
theorem tup3 {a a' b b' c c' : Value} (h1 : a = a') (h2 : b = b') (h3 : c = c') : Value.tuple #[a, b, c] = .tuple #[a', b', c'] := by rw [h1, h2, h3]
theorem tup4 {a a' b b' c c' d d' : Value} (h1 : a = a') (h2 : b = b') (h3 : c = c') (h4 : d = d') : Value.tuple #[a, b, c, d] = .tuple #[a', b', c', d'] := by rw [h1, h2, h3, h4]
theorem add_lit (b o j : Nat) : (⟨b, o, none⟩ : Addr).add j = ⟨b, o + j, none⟩ := by unfold Addr.add; split <;> simp_all

section ops
variable {r : Option Nat} {P : Program} {n : Nat} {Q : Post} {s : Fm} {w : World} {ops : Array Oper} {rest : List Oper}
variable {d : Option Tmp} {ty : TypeId} {pos : String} {af : Array Edge}

/-- Whatever the kernel can run that lays one block. -/
theorem L_new {op : Op} (v : Nat → Value) (o : Obj) (hrun : (execOp (s.ev n) ⟨d, op, ty, pos, af, none⟩).run P w = .ok (.value (v w.heap.size)) (w.alloc o)) (hd : notDefer op = true)
    (h : ∀ b w', New w w' b o → L r P n ops Q rest (s.put d (v b)) w') : L r P n ops Q (⟨d, op, ty, pos, af, none⟩ :: rest) s w :=
  L_val _ _ (notDefer_ne hd) hrun (h _ _ ⟨rfl, rfl⟩)

/-- A load of one cell. -/
theorem L_load {t : TypeId} {X : Operand} (b o : Nat) (v : Value) (hx : s.ev n X = .pointer (some ⟨b, o, none⟩)) (ha : (isAgg t).run P w = .ok false w) (hc : w.cell? ⟨b, o, none⟩ = some v)
    (h : L r P n ops Q rest (s.put d v) w) : L r P n ops Q (⟨d, .load t X, ty, pos, af, none⟩ :: rest) s w := by
  refine L_val v w (by simp) ?_ h
  simp only [execOp, hx, Instr.loadAt, Instr.sureAddr, loadVar, Sem.run_bind, Sem.run_pure, Result.andThen_ok, ha, Bool.false_eq_true, if_false]
  simp only [load, Sem.run, hc, Result.andThen_ok]
/-- A load of a struct. -/
theorem L_loadA {t : TypeId} {X : Operand} (b o : Nat) (vs : List Value) (hx : s.ev n X = .pointer (some ⟨b, o, none⟩)) (ha : (isAgg t).run P w = .ok true w) (hz : (sizeOf t).run P w = .ok vs.length w)
    (hc : ∀ j u, vs[j]? = some u → w.cell? ⟨b, o + j, none⟩ = some u)
    (h : L r P n ops Q rest (s.put d (.agg vs.toArray)) w) : L r P n ops Q (⟨d, .load t X, ty, pos, af, none⟩ :: rest) s w := by
  refine L_val _ w (by simp) ?_ h
  have hl := run_loadCells_list (P := P) (w := w) ⟨b, o, none⟩ vs (fun j u hu => by rw [add_lit]; exact hc j u hu)
  simp only [execOp, hx, Instr.loadAt, Instr.sureAddr, loadVar, Sem.run_bind, Sem.run_pure, Result.andThen_ok, ha, if_true, hz, hl]
/-- A result that lies in memory. -/
theorem load_one {t : TypeId} {ad : Addr} {v : Value} (ha : (isAgg t).run P w = .ok false w) (hc : w.cell? ad = some v) : (loadVar t ad).run P w = .ok v w := by
  simp only [loadVar, Sem.run_bind, ha, Result.andThen_ok, Bool.false_eq_true, if_false]
  simp only [load, Sem.run, hc]
theorem load_agg {t : TypeId} {b o : Nat} (vs : List Value) (ha : (isAgg t).run P w = .ok true w) (hz : (sizeOf t).run P w = .ok vs.length w) (hc : ∀ j u, vs[j]? = some u → w.cell? ⟨b, o + j, none⟩ = some u) :
    (loadVar t ⟨b, o, none⟩).run P w = .ok (.agg vs.toArray) w := by
  have hl := run_loadCells_list (P := P) (w := w) ⟨b, o, none⟩ vs (fun j u hu => by rw [add_lit]; exact hc j u hu)
  simp only [loadVar, Sem.run_bind, ha, Result.andThen_ok, if_true, hz, hl, Sem.run_pure]
theorem cells_at {b : Nat} {cs vs : List Value} {E : TypeId} {fz : Nat × Nat} (hb : w.heap[b]? = some (.cells cs.toArray E fz)) (o : Nat) (he : (cs.drop o).take vs.length = vs) : ∀ j u, vs[j]? = some u → w.cell? ⟨b, o + j, none⟩ = some u := by
  intro j u hu
  rw [← he, List.getElem?_take] at hu
  split at hu
  · rw [List.getElem?_drop] at hu
    simp [World.cell?, hb, hu]
  · cases hu
theorem cells_obj {b : Nat} {vs : List Value} {E : TypeId} {fz : Nat × Nat} (hb : w.heap[b]? = some (.cells vs.toArray E fz)) : ∀ j u, vs[j]? = some u → w.cell? ⟨b, 0 + j, none⟩ = some u := by
  intro j u hu
  simp [World.cell?, hb, hu]
theorem put_split (b : Bool) {dd : Option Tmp} {rest : List Oper} (ht : b = true → L r P n ops Q rest (s.put dd (.bool true)) w) (hf : b = false → L r P n ops Q rest (s.put dd (.bool false)) w) : L r P n ops Q rest (s.put dd (.bool b)) w := by
  cases b with
  | true => exact ht rfl
  | false => exact hf rfl
theorem cell_obj {b o : Nat} {cs : Array Value} {E : TypeId} {fz : Nat × Nat} {v : Value} (hb : w.heap[b]? = some (.cells cs E fz)) (hv : cs[o]? = some v) : w.cell? ⟨b, o, none⟩ = some v := by
  simp [World.cell?, hb, hv]
/-- A store of one cell. -/
theorem L_store {t : TypeId} {X Y : Operand} (b o : Nat) (v : Value) (cs : List Value) (cs' : List Value) (E : TypeId) (hx : s.ev n X = .pointer (some ⟨b, o, none⟩)) (hy : s.ev n Y = v) (h1 : v.oneCell' = true)
    (hz : (sizeOf t).run P w = .ok 1 w) (hb : w.heap[b]? = some (.cells cs.toArray E (0, 0))) (ho : o < cs.length) (hcs : cs.set o v = cs')
    (h : ∀ w', Wrote w w' b (.cells cs'.toArray E (0, 0)) → L r P n ops Q rest (s.put d undef) w') : L r P n ops Q (⟨d, .store t X Y, ty, pos, af, none⟩ :: rest) s w := by
  subst hcs
  have hcell : w.cell? ⟨b, o, none⟩ = some (cs[o]) := by simp [World.cell?, hb, ho]
  have hfz : w.frozen? ⟨b, o, none⟩ = false := by simp [World.frozen?, hb]
  have hcells : v.cells = #[v] := by cases v <;> first | rfl | simp [Value.oneCell'] at h1
  have hst : (store (⟨b, o, none⟩ : Addr) v).run P w = .ok () (w.setCell ⟨b, o, none⟩ v) := by
    cases v <;> first | (simp [Value.oneCell'] at h1; done) | (simp [store, Sem.run, hcell, hfz])
  refine L_unit (w.setCell ⟨b, o, none⟩ v) (by simp) ?_ (h _ ⟨rfl, rfl, rfl, by simp [World.setCell], ?_, fun k hk => Below.heap_setCell _ _ _ _ hk⟩)
  · simp only [execOp, hx, hy, Instr.storeAt, Instr.sureAddr, storeVar, Sem.run_bind, Sem.run_pure, Result.andThen_ok, hz, hcells]
    simp only [List.size_toArray, List.length_cons, List.length_nil, Nat.zero_add, ne_eq, not_true_eq_false, if_false, storeCells, Sem.run_bind, add_lit, Nat.add_zero, hst, Result.andThen_ok, Sem.run_pure]
  · obtain ⟨hlt, hk⟩ := Array.getElem?_eq_some_iff.1 hb
    show (w.heap.modify b _)[b]? = _
    rw [Array.getElem?_eq_getElem (by rw [Array.size_modify]; exact hlt), Array.getElem_modify_self, hk]
    simp
/-- A store of a struct. -/
theorem L_storeA {t : TypeId} {X Y : Operand} (b o : Nat) (vs cs cs' : List Value) (E : TypeId) (hx : s.ev n X = .pointer (some ⟨b, o, none⟩)) (hy : s.ev n Y = .agg vs.toArray) (h1 : vs.all (·.oneCell') = true)
    (hz : (sizeOf t).run P w = .ok vs.length w) (hb : w.heap[b]? = some (.cells cs.toArray E (0, 0))) (ho : Nat.ble (o + vs.length) cs.length = true) (hcs : cs.take o ++ vs ++ cs.drop (o + vs.length) = cs')
    (h : ∀ w', Wrote w w' b (.cells cs'.toArray E (0, 0)) → L r P n ops Q rest (s.put d undef) w') : L r P n ops Q (⟨d, .store t X Y, ty, pos, af, none⟩ :: rest) s w := by
  subst hcs
  have hle : o + vs.length ≤ cs.length := by simpa using ho
  have hst := run_storeCells_at (P := P) b o E vs 0 cs.toArray w hb (by simpa using hle) (fun v hv => by rw [List.all_eq_true] at h1; exact h1 v hv)
  simp only [Nat.add_zero] at hst
  refine L_unit _ (by simp) ?_ (h (w.setRow b (cs.take o ++ vs ++ cs.drop (o + vs.length)).toArray) ⟨rfl, rfl, rfl, by simp [World.setRow], setRow_heap w b cs.toArray _ E (0, 0) hb, fun k hk => ?_⟩)
  · simp only [execOp, hx, hy, Instr.storeAt, Instr.sureAddr, storeVar, Sem.run_bind, Sem.run_pure, Result.andThen_ok, hz, Value.cells]
    simp only [List.size_toArray, ne_eq, not_true_eq_false, if_false, hst, Result.andThen_ok]
  · simp only [World.setRow, Array.getElem?_modify]
    rw [if_neg (fun e => hk e.symm)]
end ops
end Go.FK
