/- FKab: what the writing methods of strings.Builder do to memory: the pieces of their walks. My own text. -/
import Derived.Test.YtjdcmeoiommglaaDoorFKl
import Derived.Test.YtjdcmeoiommglaaDoorFKi
import Derived.Lib.FrozenHead2
import Derived.Lib.Builder
set_option linter.unusedVariables false
set_option linter.unusedSimpArgs false
namespace Go.FK
open Go Go.RowKit
theorem Rd.one {α : Type} {w : World} {enc : α → List Value} {v : Value} {xs : List α} (h : Rd w enc v xs) : v.oneCell' = true := by
  obtain ⟨a, c, rfl, _⟩ := h; rfl
section
variable {T E B b : Nat} {l m : List UInt8} {w w1 w2 w3 : World} {p v v2 : Value}
theorem byteCells_len (l : List UInt8) : (Lib.byteCells l).length = l.length := by simp [Lib.byteCells]
theorem bld_open (h : Bld T E B b l w) : B ≤ b ∧ ∃ p v, (p = .pointer none ∨ p = .pointer (some ⟨b, 0, none⟩)) ∧ w.heap[b]? = some (.cells [p, v].toArray T (0, 0)) ∧ w.ownsRowF B E 1 v l.length (Lib.byteCells l) ∧ v.ownBlock ≠ some b := by
  rcases h with ⟨hB, v, hb, hown, hne⟩ | ⟨hB, v, hb, hown, hne⟩
  · rw [byteCells_len] at hown; exact ⟨hB, _, v, .inl rfl, hb, hown, hne⟩
  · rw [byteCells_len] at hown; exact ⟨hB, _, v, .inr rfl, hb, hown, hne⟩
theorem grown_wrote {o : Obj} (h : Wrote w w1 b o) : w.grownBy w1 (some b) :=
  ⟨h.os, h.tape, h.output, Nat.le_of_eq h.size.symm, fun k _ hk => h.other k (fun e => hk (by rw [e]))⟩
theorem grown_below (h : Below w.heap.size w w1) : w.grownBy w1 none := ⟨h.os, h.tape, h.output, h.size, fun k hk _ => h.block k hk⟩
theorem frow_wrote {n : Nat} {xs : List Value} {o : Obj} (h : w.ownsRowF B E 1 v n xs) (hW : Wrote w w1 b o) (hne : v.ownBlock ≠ some b) : w1.ownsRowF B E 1 v n xs := h.kept (grown_wrote hW) (.inr hne)
theorem frow_below {n : Nat} {xs : List Value} (h : w.ownsRowF B E 1 v n xs) (hb : Below w.heap.size w w1) : w1.ownsRowF B E 1 v n xs := h.kept (grown_below hb) (by cases v.ownBlock <;> simp)
theorem kept_wrote {o : Obj} (h : Wrote w w1 b o) : Lib.OthersKept E (some b) w w1 := fun k x hk hb _ => (h.other k (fun e => hb (by rw [e]))).trans hk
theorem kept_below (h : Below w.heap.size w w1) : Lib.OthersKept E (some b) w w1 := fun k x hk _ _ => (h.block k (obj_lt hk)).trans hk
theorem copy_out (hcc : (w1 = w ∧ p = .pointer (some ⟨b, 0, none⟩)) ∨ Wrote w w1 b (.cells [.pointer (some ⟨b, 0, none⟩), v].toArray T (0, 0))) (hB : B ≤ b)
    (ho : w.heap[b]? = some (.cells [p, v].toArray T (0, 0))) (hown : w.ownsRowF B E 1 v l.length (Lib.byteCells l)) (hne : v.ownBlock ≠ some b) :
    w1.heap[b]? = some (.cells [.pointer (some ⟨b, 0, none⟩), v].toArray T (0, 0)) ∧ w1.ownsRowF B E 1 v l.length (Lib.byteCells l) ∧ Below B w w1 ∧ Lib.OthersKept E (some b) w w1 ∧ w.heap.size ≤ w1.heap.size := by
  rcases hcc with ⟨rfl, rfl⟩ | hW
  · exact ⟨ho, hown, Below.refl _ _, Lib.OthersKept.refl _ _ _, Nat.le_refl _⟩
  · exact ⟨hW.here, frow_wrote hown hW hne, hW.below hB, kept_wrote hW, Nat.le_of_eq hW.size.symm⟩
theorem frow_one {n : Nat} {xs : List Value} (h : w.ownsRowF B E 1 v n xs) : v.oneCell' = true := by
  rcases h.2 with ⟨rfl, _⟩ | ⟨g, cap, cur, fz, rfl, _⟩ <;> rfl
theorem frow_ne {n : Nat} {xs : List Value} {cs : Array Value} {fr : Nat × Nat} (hown : w.ownsRowF B E 1 v n xs) (hb : w.heap[b]? = some (.cells cs T fr)) (hTE : Nat.beq T E = false) : v.ownBlock ≠ some b :=
  Lib.ownBlock_neF hown hb (fun e => by subst e; simp at hTE)
/-- The call's end: what was taken on is there. -/
theorem bld_shut (hB : B ≤ b) (hb : Below B w w1) (hO : Lib.OthersKept E (some b) w w1) (hs : B ≤ w1.heap.size) (hown1 : w1.ownsRowF B E 1 v l.length (Lib.byteCells l)) (hg : w1.grownBy w2 v.ownBlock)
    (hown2 : w2.ownsRowF B E 1 v2 m.length (Lib.byteCells m)) (ho2 : w2.heap[b]? = some (.cells [.pointer (some ⟨b, 0, none⟩), v].toArray T (0, 0)))
    (hW : Wrote w2 w3 b (.cells [.pointer (some ⟨b, 0, none⟩), v2].toArray T (0, 0))) (hTE : Nat.beq T E = false) : Bld T E B b m w3 ∧ Below B w w3 ∧ Lib.OthersKept E (some b) w w3 := by
  have hne := frow_ne hown2 ho2 hTE
  refine ⟨.inr ⟨hB, v2, hW.here, ?_, hne⟩, ?_, ?_⟩
  · rw [byteCells_len]; exact frow_wrote hown2 hW hne
  · exact (hb.grown hg hs (fun k hk => (hown1.lt k hk).1)).trans (hW.below hB)
  · exact (hO.grown hg (Lib.ownsRowF_kind hown1)).trans (kept_wrote hW)
end
section ops
variable {r : Option Nat} {P : Program} {n : Nat} {Q : Post} {s : Fm} {w : World} {ops : Array Oper} {rest : List Oper}
variable {d : Option Tmp} {ty : TypeId} {pos : String} {af : Array Edge} {T U E B : Nat} {l : List UInt8} {v : Value}
theorem info_u8 (hi : (P.info? E).map (fun i => (i.zero, i.size, i.bytes)) = some (some (.int .u8 0), 1, 1)) : ∃ i, P.info? E = some i ∧ i.zero = some (.int .u8 0) ∧ i.size = 1 ∧ i.bytes = 1 := by
  cases hq : P.info? E with
  | none => rw [hq] at hi; cases hi
  | some i =>
    rw [hq] at hi
    simp only [Option.map_some, Option.some.injEq, Prod.mk.injEq] at hi
    exact ⟨i, rfl, hi.1, hi.2.1, hi.2.2⟩
theorem L_appStrF {A X : Operand} (x : List UInt8) (ht : P.underlying T = some (.slice E)) (hu : P.underlying U = some .string) (hi : (P.info? E).map (fun i => (i.zero, i.size, i.bytes)) = some (some (.int .u8 0), 1, 1))
    (hown : w.ownsRowF B E 1 v l.length (Lib.byteCells l)) (hl : l.length ≤ 1073741824) (hx : x.length ≤ 1073741824) (hB : B ≤ w.heap.size) (hA : s.ev n A = v) (hX : s.ev n X = S x)
    (h : ∀ v' w', w'.ownsRowF B E 1 v' (l ++ x).length (Lib.byteCells (l ++ x)) → w.grownBy w' v.ownBlock → L r P n ops Q rest (s.put d v') w') :
    L r P n ops Q (⟨d, .call ⟨.builtin .append, #[A, X], #[T, U]⟩, ty, pos, af, none⟩ :: rest) s w := by
  obtain ⟨i, hq, hz, hs1, hb1⟩ := info_u8 hi
  have hsz : (⟨x.toArray⟩ : ByteArray).size = x.length := by show x.toArray.size = _; simp
  obtain ⟨v', w', hrun, hown', hg, _⟩ := Lib.run_append_own_stringF (P := P) w B T U ty E i ht hu hq hz hs1 hb1 v l.length (Lib.byteCells l) hown ⟨x.toArray⟩ (by rw [hsz]; unfold maxLen; omega) (by rw [hsz]; omega) hB
  refine L_val v' w' (by simp) ?_ (h v' w' ?_ hg)
  · have hX' : s.ev n X = .string ⟨x.toArray⟩ := hX
    simp only [execOp, resolve, invoke, builtin, Sem.run_bind, Sem.run_pure, Result.andThen_ok, List.map_toArray, List.map_cons, List.map_nil, hA, hX', hrun]
  · rw [hsz] at hown'
    rw [List.length_append, ← bytes_app]
    exact hown'
theorem L_appByteF {A X : Operand} (c : UInt8) (g : Nat) (ht : P.underlying T = some (.slice E)) (hi : (P.info? E).map (fun i => (i.zero, i.size, i.bytes)) = some (some (.int .u8 0), 1, 1))
    (hown : w.ownsRowF B E 1 v l.length (Lib.byteCells l)) (hl : l.length ≤ 1073741824) (hg : w.heap[g]? = some (.cells [Value.int .u8 ((c.toNat : Nat) : Int)].toArray E (0, 0))) (hB : B ≤ w.heap.size) (hA : s.ev n A = v) (hX : s.ev n X = .slice (some ⟨g, 0, none⟩) 1 1)
    (h : ∀ v' w', w'.ownsRowF B E 1 v' (l ++ [c]).length (Lib.byteCells (l ++ [c])) → w.grownBy w' v.ownBlock → L r P n ops Q rest (s.put d v') w') :
    L r P n ops Q (⟨d, .call ⟨.builtin .append, #[A, X], #[T, T]⟩, ty, pos, af, none⟩ :: rest) s w := by
  obtain ⟨i, hq, hz, hs1, hb1⟩ := info_u8 hi
  obtain ⟨v', w', hrun, hown', hgr, _⟩ := run_append_ownF (P := P) (w := w) B T ty E i (.int .u8 0) 1 1 ht hq hz hs1 hb1 rfl (by decide) v l.length (Lib.byteCells l) hown ⟨g, 0, none⟩ 1 1 [Value.int .u8 ((c.toNat : Nat) : Int)] rfl
    (fun j u hj => by
      match j, hj with
      | 0, hj =>
        simp only [List.getElem?_cons_zero, Option.some.injEq] at hj; subst hj
        rw [add_lit]; exact cell_obj hg rfl)
    (fun u hu => by simp at hu; subst hu; rfl) (by unfold maxLen; omega) (by omega) hB
  refine L_val v' w' (by simp) ?_ (h v' w' ?_ hgr)
  · simp only [execOp, resolve, invoke, builtin, Sem.run_bind, Sem.run_pure, Result.andThen_ok, List.map_toArray, List.map_cons, List.map_nil, hA, hX, hrun]
  · rw [List.length_append, ← bytes_app]
    exact hown'
theorem L_toUns {src dst t : TypeId} {X : Operand} {k : Nat} {e : TypeId} {cs : List Value} (b : Nat) (hs : P.underlying src = some (.pointer t)) (hd : P.underlying dst = some .unsafePointer) (hi : (P.info? t).map (·.size) = some k) (hk : Nat.beq k 0 = false)
    (ho : w.heap[b]? = some (.cells cs.toArray e (0, 0))) (hc : Nat.blt 0 cs.length = true) (hX : s.ev n X = .pointer (some ⟨b, 0, none⟩)) (h : L r P n ops Q rest (s.put d (.pointer (some ⟨b, 0, none⟩))) w) :
    L r P n ops Q (⟨d, .convert src dst X, ty, pos, af, none⟩ :: rest) s w := by
  obtain ⟨j, hj, hjs⟩ := Option.map_eq_some_iff.1 hi
  have hsh : w.shape? b = some (e, cs.length) := by simp [World.shape?, ho]
  refine L_val _ w (by simp) ?_ h
  simp only [execOp, hX, Sem.run_bind, Lib.run_to_unsafe (P := P) (w := w) ⟨b, 0, none⟩ hs hd hj (by rw [hjs]; intro e; subst e; simp at hk) hsh (by simpa using hc), Result.andThen_ok, Sem.run_pure]
theorem L_fromUns {src dst t : TypeId} {X : Operand} {k : Nat} {e : TypeId} {cs : List Value} (b : Nat) (hs : P.underlying src = some .unsafePointer) (hd : P.underlying dst = some (.pointer t)) (hi : (P.info? t).map (·.size) = some k)
    (ho : w.heap[b]? = some (.cells cs.toArray e (0, 0))) (hl : liesAt P P.depth e (cs.length / P.cellsOf e) 0 t 1 = true) (hX : s.ev n X = .pointer (some ⟨b, 0, none⟩)) (h : L r P n ops Q rest (s.put d (.pointer (some ⟨b, 0, none⟩))) w) :
    L r P n ops Q (⟨d, .convert src dst X, ty, pos, af, none⟩ :: rest) s w := by
  obtain ⟨j, hj, hjs⟩ := Option.map_eq_some_iff.1 hi
  have hsh : w.shape? b = some (e, cs.length) := by simp [World.shape?, ho]
  refine L_val _ w (by simp) ?_ h
  simp only [execOp, hX, Sem.run_bind, Lib.run_from_unsafe (P := P) (w := w) ⟨b, 0, none⟩ hs hd hj hsh hl, Result.andThen_ok, Sem.run_pure]
theorem L_pneF {tp te yt : TypeId} {X Y : Operand} {k : Nat} (b : Nat) (hp : P.underlying tp = some (.pointer te)) (hi : (P.info? te).map (·.size) = some k) (hX : s.ev n X = .pointer (some ⟨b, 0, none⟩)) (hY : s.ev n Y = .pointer (some ⟨b, 0, none⟩))
    (hg : (eqGuard .neq tp X Y (.pointer (some ⟨b, 0, none⟩)) (.pointer (some ⟨b, 0, none⟩))).run P w = .ok () w) (h : L r P n ops Q rest (s.put d (.bool false)) w) : L r P n ops Q (⟨d, .binOp .neq tp X Y yt, ty, pos, af, none⟩ :: rest) s w := by
  obtain ⟨j, hj, _⟩ := Option.map_eq_some_iff.1 hi
  exact L_bin _ _ (.bool false) hX hY hg (Lib.run_neq_ptr_same w ⟨b, 0, none⟩ hp hj) h
theorem flat_take {α : Type} (enc : α → List Value) (k : Nat) (hk : ∀ x, (enc x).length = k) (xs : List α) (i : Nat) (hi : i ≤ xs.length) : (xs.flatMap enc).take (i * k) = (xs.take i).flatMap enc ∧ (xs.flatMap enc).drop (i * k) = (xs.drop i).flatMap enc := by
  have h1 : xs.flatMap enc = (xs.take i).flatMap enc ++ (xs.drop i).flatMap enc := by rw [← List.flatMap_append, List.take_append_drop]
  have h2 : ((xs.take i).flatMap enc).length = i * k := by rw [flat_len enc k hk, List.length_take, Nat.min_eq_left hi]
  rw [h1]
  exact ⟨List.take_left' h2, List.drop_left' h2⟩
theorem flat_setA {α : Type} (enc : α → List Value) (k : Nat) (hk : ∀ x, (enc x).length = k) (xs : List α) (i : Nat) (x' : α) (hi : i < xs.length) : (xs.set i x').flatMap enc = (xs.flatMap enc).take (i * k) ++ enc x' ++ (xs.flatMap enc).drop (i * k + k) := by
  rw [(flat_take enc k hk xs i (by omega)).1, show i * k + k = (i + 1) * k by rw [Nat.succ_mul], (flat_take enc k hk xs (i + 1) (by omega)).2, List.set_eq_take_append_cons_drop, if_pos hi, List.flatMap_append, List.flatMap_cons, List.append_assoc]
/-- A store of a whole element of a row of the call's own. -/
theorem L_storeRowA {α : Type} {t : TypeId} {X Y : Operand} {enc : α → List Value} {E k : Nat} {xs : List α} (i g off : Nat) (x' : α) (us : List Value) (hrow : Row w B E k enc v xs) (hk : ∀ x, (enc x).length = k) (hi : i < xs.length) (hl : Lies v g off xs.length)
    (hx : s.ev n X = .pointer (some ⟨g, off + i * k, none⟩)) (hy : s.ev n Y = .agg us.toArray) (h1 : us.all (·.oneCell') = true) (hz : (sizeOf t).run P w = .ok us.length w) (hen : enc x' = us)
    (h : ∀ w', Row w' B E k enc v (xs.set i x') → w.grownBy w' v.ownBlock → L r P n ops Q rest (s.put d undef) w') : L r P n ops Q (⟨d, .store t X Y, ty, pos, af, none⟩ :: rest) s w := by
  obtain ⟨hlen, hr⟩ := hrow
  rcases hr with ⟨h2, h3⟩ | ⟨g', cap, cur, rfl, hg, hh, hnc, hcm, hcs, htake⟩
  · omega
  · obtain ⟨c, hc⟩ := hl
    injection hc with hc1 hc2 hc3
    injection hc1 with hc1
    injection hc1 with hc1 hc4
    subst hc1; subst hc4
    rw [Nat.zero_add] at hx
    have hul : us.length = k := by rw [← hen, hk]
    have hb : i * k + k ≤ xs.length * k := by rw [← Nat.succ_mul]; exact Nat.mul_le_mul_right _ hi
    have hb2 : xs.length * k ≤ cur.size := by rw [hcs]; exact Nat.mul_le_mul_right _ hnc
    have hble : Nat.ble (i * k + us.length) cur.toList.length = true := by
      have e3 : cur.toList.length = cur.size := Array.length_toList
      rw [Nat.ble_eq, e3, hul]
      omega
    refine L_storeA g' (i * k) us cur.toList (cur.toList.take (i * k) ++ us ++ cur.toList.drop (i * k + us.length)) E hx hy h1 hz (by simpa using hh) hble rfl ?_
    intro w' hW
    have hf := flat_setA enc k hk xs i x' hi
    have hrow' : Row w' B E k enc (.slice (some ⟨g', 0, none⟩) xs.length cap) (xs.set i x') := by
      refine ⟨?_, .inr ⟨g', cap, _, ?_, hg, hW.here, ?_, hcm, ?_, ?_⟩⟩
      · rw [flat_len enc k hk]
      · rw [List.length_set]
      · rw [List.length_set]; exact hnc
      · rw [hul]
        simp only [List.size_toArray, List.length_append, List.length_take, List.length_drop, Array.length_toList, hul]
        rw [← hcs]; omega
      · rw [List.length_set, hf, hen, hul, ← htake]
        have e3 : cur.toList.length = cur.size := Array.length_toList
        have e1 : (cur.toList.take (i * k)).length = i * k := by rw [List.length_take, e3]; omega
        rw [List.take_take, Nat.min_eq_left (by omega), List.drop_take]
        have e2 : (cur.toList.take (i * k) ++ us).length = i * k + k := by rw [List.length_append, e1, hul]
        rw [show (cur.toList.take (i * k) ++ us ++ cur.toList.drop (i * k + k)).toArray.toList = cur.toList.take (i * k) ++ us ++ cur.toList.drop (i * k + k) from rfl, List.take_append, e2, List.take_of_length_le (by rw [e2]; omega)]
    exact h w' hrow' (grown_of_wrote hW rfl)
theorem L_beqS {t yt : TypeId} {X Y : Operand} (b : Bool) (hX : s.ev n X = .bool b) (hY : s.ev n Y = .bool b) (hr : ∀ c : Bool, (binOp .eql t (.bool c) (.bool c)).run P w = .ok (.bool true) w) (h : L r P n ops Q rest (s.put d (.bool true)) w) : L r P n ops Q (⟨d, .binOp .eql t X Y yt, ty, pos, af, none⟩ :: rest) s w :=
  L_bin _ _ (.bool true) hX hY (by unfold eqGuard; cases b <;> rfl) (hr b) h
end ops
end Go.FK
