/- FKk: whole slices appended, pieces of slices, rows that a call hands back, over functional frames. My own text. -/
import Derived.Test.YthjgnnfonofgkaaFKj
namespace Go.FK
open Go Go.RowKit
/-- A row that a call hands back lies apart from an older one. -/
theorem ap_call {α β : Type} {w w' : World} {B E E' k k' : Nat} {enc : α → List Value} {enc' : β → List Value} {q v : Value} {xs : List α} {ys : List β} (hn : Row w' w.heap.size E k enc q xs) (ho : Row w B E' k' enc' v ys) : q.ownBlock = none ∨ q.ownBlock ≠ v.ownBlock := by
  rcases hn.2 with ⟨rfl, _⟩ | ⟨g, cap, cur, rfl, hg, hh, _⟩
  · exact .inl rfl
  · rcases row_block ho with rfl | ⟨g', cap', cur', rfl, hh'⟩
    · right; simp [Value.ownBlock]
    · right
      intro e
      have e1 : some g = some g' := e
      have := Option.some.inj e1
      have := obj_lt hh'
      omega
theorem ap_comm {q v : Value} (h : q.ownBlock = none ∨ q.ownBlock ≠ v.ownBlock) : v.ownBlock = none ∨ v.ownBlock ≠ q.ownBlock := by
  rcases h with h | h
  · rw [h]
    cases hv : v.ownBlock with
    | none => exact .inl rfl
    | some g => right; simp
  · exact .inr (fun e => h e.symm)
theorem Row.nb_ge {α : Type} {w : World} {B E k b : Nat} {enc : α → List Value} {v : Value} {xs : List α} (h : Row w B E k enc v xs) (hb : w.heap.size ≤ b) : v.ownBlock ≠ some b := by
  rcases row_block h with rfl | ⟨g, cap, cur, rfl, hh⟩
  · simp [Value.ownBlock]
  · intro e
    have := obj_lt hh
    have h1 : some g = some b := e
    have := Option.some.inj h1
    omega
theorem Row.nb_call {α : Type} {w w' : World} {E k b : Nat} {o : Obj} {enc : α → List Value} {q : Value} {xs : List α} (h : Row w' w.heap.size E k enc q xs) (ho : w.heap[b]? = some o) : q.ownBlock ≠ some b := by
  intro e
  have := (World.ownsRow.lt h b e).1
  have := obj_lt ho
  omega
theorem enc_flat_one {α : Type} (enc : α → List Value) (h1 : ∀ x, (enc x).all (·.oneCell') = true) (l : List α) : ∀ u ∈ l.flatMap enc, u.oneCell' = true := by
  intro u hu
  obtain ⟨x, _, hx⟩ := List.mem_flatMap.1 hu
  have := h1 x
  rw [List.all_eq_true] at this
  exact this u hx
theorem flat_len {α : Type} (enc : α → List Value) (k : Nat) (hk : ∀ x, (enc x).length = k) (l : List α) : (l.flatMap enc).length = l.length * k := by
  induction l with
  | nil => simp
  | cons x l ih => rw [List.flatMap_cons, List.length_append, hk, ih, List.length_cons, Nat.succ_mul]; omega
theorem ownb_app2 {v v' : Value} {m b : Nat} (h : v'.ownBlock = v.ownBlock ∨ v'.ownBlock = some m) (hne : v.ownBlock ≠ some b) (hb : b < m) : v'.ownBlock ≠ some b := by
  rcases h with h | h
  · rw [h]; exact hne
  · rw [h]; intro e; have := Option.some.inj e; omega
theorem ap_app2 {α : Type} {w : World} {B E k : Nat} {enc : α → List Value} {v v1 v2 : Value} {xs : List α} (h : Row w B E k enc v xs) (how : v2.ownBlock = v1.ownBlock ∨ v2.ownBlock = some w.heap.size) (hne : v.ownBlock = none ∨ v.ownBlock ≠ v1.ownBlock) : v.ownBlock = none ∨ v.ownBlock ≠ v2.ownBlock := by
  rcases how with e | e
  · rw [e]; exact hne
  · rcases row_block h with rfl | ⟨g, cap, cur, rfl, hh⟩
    · exact .inl rfl
    · right
      rw [e]
      intro e2
      have h1 : some g = some w.heap.size := e2
      have h2 := Option.some.inj h1
      have := obj_lt hh
      omega
theorem nr_app2 {n K0 K : Nat} {v v' : Value} (how : v'.ownBlock = v.ownBlock ∨ v'.ownBlock = some n) (hn : ∀ g, v.ownBlock = some g → ¬ Iv K0 K g) (hK : K ≤ n) : ∀ g, v'.ownBlock = some g → ¬ Iv K0 K g := by
  intro g hg hiv
  rcases how with h | h
  · exact hn g (by rw [← h]; exact hg) hiv
  · rw [h] at hg; cases hg; have := hiv.2; omega
section ops
variable {r : Option Nat} {P : Program} {n : Nat} {Q : Post} {s : Fm} {w : World} {ops : Array Oper} {rest : List Oper}
variable {d : Option Tmp} {ty : TypeId} {pos : String} {af : Array Edge}
/-- Where branches meet again. -/
theorem W_cut {x z : Code} (M : Fm → World → Prop) (h1 : W r P n x (thenQ M Q) s w) (h2 : ∀ s w, M s w → W r P n z Q s w) : W r P n (.seq x z) Q s w := by
  refine W_seq (W_mono h1 ?_)
  intro e s w h
  cases e with
  | normal => exact h2 s w h
  | _ => exact h
theorem and8_wrap (a b : Nat) (ha : a ≤ 255) (hb : b ≤ 255) : IntKind.u8.wrap ((BitVec.ofInt 8 (a : Int) &&& BitVec.ofInt 8 (b : Int)).toNat : Int) = ((a &&& b : Nat) : Int) := by
  have h1 : BitVec.ofInt 8 (a : Int) = BitVec.ofNat 8 a := by simp
  have h2 : BitVec.ofInt 8 (b : Int) = BitVec.ofNat 8 b := by simp
  rw [h1, h2, BitVec.toNat_and, BitVec.toNat_ofNat, BitVec.toNat_ofNat, Nat.mod_eq_of_lt (by omega), Nat.mod_eq_of_lt (by omega)]
  have := Nat.and_le_left (n := a) (m := b)
  exact wrap_u8 _ (by omega) (by omega)
theorem L_and8 {t yt : TypeId} {X Y : Operand} (z : Int) (a b : Nat) (ha : z = (a : Int) ∧ a ≤ 255) (hb : b ≤ 255) (hx : s.ev n X = .int .u8 z) (hy : s.ev n Y = .int .u8 b)
    (h : L r P n ops Q rest (s.put d (.int .u8 ((a &&& b : Nat) : Int))) w) : L r P n ops Q (⟨d, .binOp .and t X Y yt, ty, pos, af, none⟩ :: rest) s w := by
  obtain ⟨rfl, ha⟩ := ha
  refine L_bin _ _ (.int .u8 ((a &&& b : Nat) : Int)) hx hy (eqGuard_int ..) ?_ h
  rw [← and8_wrap a b ha hb]
  rfl
/-- A slice appended to a row of the call's own. -/
theorem L_appAll {α : Type} {A X : Operand} {T E k bytes : Nat} {enc : α → List Value} (he : Elem P T E k bytes) (B : Nat) (v vx : Value) (xs ys : List α) (hB : B ≤ w.heap.size)
    (hrow : Row w B E k enc v xs) (hx : Rd w enc vx ys) (hm : (xs.length + ys.length) * bytes ≤ 140737488355328) (hk : ∀ x, (enc x).length = k) (h1 : ∀ x, (enc x).all (·.oneCell') = true) (hby : Nat.blt 0 bytes = true)
    (hA : s.ev n A = v) (hX : s.ev n X = vx)
    (h : ∀ v' w', Row w' B E k enc v' (xs ++ ys) → w.grownBy w' v.ownBlock → (v'.ownBlock = v.ownBlock ∨ v'.ownBlock = some w.heap.size) → L r P n ops Q rest (s.put d v') w') :
    L r P n ops Q (⟨d, .call ⟨.builtin .append, #[A, X], #[T, T]⟩, ty, pos, af, none⟩ :: rest) s w := by
  obtain ⟨i, hq, hz, hks, hbys, z, hzz, hzs⟩ : ∃ i, P.info? E = some i ∧ i.zero.map (fun z => z.cells.size) = some k ∧ i.size = k ∧ i.bytes = bytes ∧ ∃ z, i.zero = some z ∧ z.cells.size = k := by
    have h := he.hi
    cases hq : P.info? E with
    | none => rw [hq] at h; cases h
    | some i =>
      rw [hq] at h
      simp only [Option.map_some, Option.some.injEq, Prod.mk.injEq] at h
      obtain ⟨h1, h2, h3⟩ := h
      cases hz : i.zero with
      | none => rw [hz] at h1; cases h1
      | some z => rw [hz] at h1; exact ⟨i, rfl, by rw [hz]; exact h1, h2, h3, z, hz, by simpa using h1⟩
  have hkp : 0 < k := by have := he.hk; simpa using this
  have hbp : 0 < bytes := by simpa using hby
  obtain ⟨a, c, rfl, hcells⟩ := hx
  rcases Nat.eq_zero_or_pos ys.length with h0 | h0
  · obtain rfl : ys = [] := List.eq_nil_of_length_eq_zero h0
    have hrun : (Builtin.append_ #[T, T] ty #[v, .slice a 0 c]).run P w = .ok v w := by
      obtain ⟨_, hr⟩ := hrow
      rcases hr with ⟨rfl, h3⟩ | ⟨g, cap, cur, rfl, hg, hh, hnc, hcm, hcs, htake⟩
      · cases a <;> simp [Builtin.append_, run_underlying he.ht, sizeOf, typeInfo, hq, Builtin.lenOf, Builtin.firstCells, loadCells, loadCellsFrom]
      · cases a <;> simp [Builtin.append_, run_underlying he.ht, sizeOf, typeInfo, hq, Builtin.lenOf, Builtin.firstCells, loadCells, loadCellsFrom, hnc, storeCells]
    refine L_val v w (by simp) ?_ (h v w (by rw [List.append_nil]; exact hrow) ⟨rfl, rfl, rfl, Nat.le_refl _, fun _ _ _ => rfl⟩ (.inl rfl))
    simp only [execOp, resolve, invoke, builtin, Sem.run_bind, Sem.run_pure, Result.andThen_ok, List.map_toArray, List.map_cons, List.map_nil, hA, hX, List.length_nil, hrun]
  · rcases hcells with hc | ⟨g, off, rfl, hc⟩
    · omega
    · have hm2 : xs.length + ys.length ≤ maxLen := by
        have : (xs.length + ys.length) * 1 ≤ (xs.length + ys.length) * bytes := Nat.mul_le_mul_left _ hbp
        unfold maxLen; omega
      obtain ⟨v', w', hrun, hrow', hgrow, _, hwhere⟩ := run_append_own2 (P := P) w B T ty E i z k bytes he.ht hq hzz hks hbys hzs hkp v xs.length (xs.flatMap enc) hrow ⟨g, off, none⟩ ys.length c (ys.flatMap enc)
        (flat_len enc k hk ys) (fun j u hu => by rw [add_lit]; exact hc j u hu) (enc_flat_one enc h1 ys) hm2 hm hB
      refine L_val v' w' (by simp) ?_ (h v' w' ?_ hgrow hwhere)
      · simp only [execOp, resolve, invoke, builtin, Sem.run_bind, Sem.run_pure, Result.andThen_ok, List.map_toArray, List.map_cons, List.map_nil, hA, hX, hrun]
      · unfold Row
        rw [List.length_append, List.flatMap_append]
        exact hrow'
/-- The beginning of a row, to be read. -/
theorem L_slto {α : Type} {X : Operand} {hi : Operand} {T E k bytes B : Nat} {enc : α → List Value} (he : Elem P T E k bytes) (v : Value) (xs : List α) (m : Nat) (hrow : Row w B E k enc v xs) (hk : ∀ x, (enc x).length = k) (hm : m ≤ xs.length)
    (hX : s.ev n X = v) (hhi : ∃ kk, s.ev n hi = .int kk m)
    (h : ∀ v', Rd w enc v' (xs.take m) → L r P n ops Q rest (s.put d v') w) : L r P n ops Q (⟨d, .slice T X none (some hi) none, ty, pos, af, none⟩ :: rest) s w := by
  obtain ⟨kk, hhi⟩ := hhi
  have hl : (xs.take m).length = m := by rw [List.length_take]; omega
  obtain ⟨hlen, hr⟩ := id hrow
  rcases hr with ⟨rfl, h3⟩ | ⟨g, cap, cur, rfl, hg, hh, hnc, hcm, hcs, htake⟩
  · have hm0 : m = 0 := by omega
    subst hm0
    refine L_val (.slice none 0 0) w (by simp) ?_ (h _ ⟨none, 0, by rw [hl], .inl hl⟩)
    have hb := sliceB (P := P) (w := w) (len := 0) (cap := 0) (lo := none) (hi := some (.int kk (0 : Nat))) 0 0 rfl ⟨kk, rfl⟩ (Nat.le_refl _) (Nat.le_refl _) true
    simp only [execOp, hX, hhi, Instr.sliceAt, Instr.slice, Sem.run_bind, Sem.run_pure, Result.andThen_ok, run_underlying he.ht, Option.map_none, Option.map_some, hb, run_size he, Option.map_none]
    rfl
  · have hb := sliceB (P := P) (w := w) (len := xs.length) (cap := cap) (lo := none) (hi := some (.int kk (m : Nat))) 0 m rfl ⟨kk, rfl⟩ (Nat.zero_le _) (by omega) true
    have hrd := hrow.rd
    refine L_val (.slice (some ⟨g, 0, none⟩) m cap) w (by simp) ?_ (h _ ⟨some ⟨g, 0, none⟩, cap, by rw [hl], ?_⟩)
    · simp only [execOp, hX, hhi, Instr.sliceAt, Instr.slice, Sem.run_bind, Sem.run_pure, Result.andThen_ok, run_underlying he.ht, Option.map_none, Option.map_some, hb, run_size he]
      have e : (if cap = 0 then some (⟨g, 0, none⟩ : Addr) else some ((⟨g, 0, none⟩ : Addr).add (0 * k))) = some ⟨g, 0, none⟩ := by
        split
        · rfl
        · rw [add_lit, Nat.zero_mul]
      simp only [Nat.sub_zero, e, Option.map_some]
    · rcases Nat.eq_zero_or_pos m with h0 | h0
      · left; omega
      · right
        refine ⟨g, 0, rfl, fun j u hu => ?_⟩
        rw [Nat.zero_add]
        obtain ⟨g', ⟨c', hv⟩, _, hc⟩ := row_lies hrow (by omega)
        injection hv with hv1
        injection hv1 with hv1
        injection hv1 with hv1
        subst hv1
        refine hc j u ?_
        have e : xs.flatMap enc = (xs.take m).flatMap enc ++ (xs.drop m).flatMap enc := by rw [← List.flatMap_append, List.take_append_drop]
        rw [e, List.getElem?_append_left (List.getElem?_eq_some_iff.1 hu).1]
        exact hu
end ops
section quiet
variable {P : Program} {n : Nat} {K : Fm → Prop} {s : Fm} {w : World} {ops : Array Oper} {rest : List Oper}
variable {d : Option Tmp} {ty : TypeId} {pos : String} {af : Array Edge}
theorem Lq_seq {op : BinOp} {t yt : TypeId} {X Y : Operand} (a b : List UInt8) (hop : op = .eql) (hx : s.ev n X = S a) (hy : s.ev n Y = S b)
    (ht : a = b → Lq P n ops w K rest (s.put d (.bool true))) (hf : a ≠ b → Lq P n ops w K rest (s.put d (.bool false))) : Lq P n ops w K (⟨d, .binOp op t X Y yt, ty, pos, af, none⟩ :: rest) s := by
  subst hop
  have hrun : ∀ w, (binOp .eql t (S a) (S b)).run P w = .ok (.bool (decide (a = b))) w := by
    intro w
    simp only [S, binOp, Op.stringOp, toList_mk, Sem.run_pure, beq_list]
  refine Lq_bin _ _ _ hx hy (fun _ => eqGuard_str ..) hrun ?_
  by_cases hpp : a = b
  · rw [decide_eq_true hpp]; exact ht hpp
  · rw [decide_eq_false hpp]; exact hf hpp
theorem Lq_sne {op : BinOp} {t yt : TypeId} {X Y : Operand} (a b : List UInt8) (hop : op = .neq) (hx : s.ev n X = S a) (hy : s.ev n Y = S b)
    (ht : a ≠ b → Lq P n ops w K rest (s.put d (.bool true))) (hf : a = b → Lq P n ops w K rest (s.put d (.bool false))) : Lq P n ops w K (⟨d, .binOp op t X Y yt, ty, pos, af, none⟩ :: rest) s := by
  subst hop
  have hrun : ∀ w, (binOp .neq t (S a) (S b)).run P w = .ok (.bool (!decide (a = b))) w := by
    intro w
    simp only [S, binOp, Op.stringOp, toList_mk, Sem.run_pure, beq_list]
  refine Lq_bin _ _ _ hx hy (fun _ => eqGuard_str ..) hrun ?_
  by_cases hpp : a = b
  · rw [decide_eq_true hpp]; exact hf hpp
  · rw [decide_eq_false hpp]; exact ht hpp
end quiet
end Go.FK
