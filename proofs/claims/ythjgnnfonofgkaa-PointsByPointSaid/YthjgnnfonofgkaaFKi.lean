/- FKi: regions that draw their order, whose operations have guards. My own text. -/
import Derived.Test.YthjgnnfonofgkaaFKu
namespace Go.FK
open Go Go.RowKit
section
variable {P : Program} {n : Nat} {Q : Post} {s : Fm} {w : World} {ops : Array Oper} {fuel : Nat} {listed : Array Bool}
/-- One operation of the region, wanted by its guard, by the laws of operations that come in their order. -/
theorem I_opW (i : Nat) {o : Oper} (hi : ops[i]? = some o)
    (h : L none P n ops (fun e s' w' => e = .normal ∧ Li P n ops Q fuel (listed.setIfInBounds i true) s' w') [o] s w) (hw : wantB ops n s o.guard = true) : Iop P n ops Q fuel listed i s w := by
  unfold Iop wpOpIn
  rw [hi]
  rw [L_iff] at h
  unfold wpListIn at h
  have hwant : Region.wanted o (yielded ops (s.act n).tmps) = true := by rw [wanted_want]; exact hw
  rw [if_pos hwant] at h
  simp only [hwant, if_true]
  have key : ∀ {a w'}, wpListIn (Fw none) 0 P ops (upQ n fun e s' w' => e = .normal ∧ Li P n ops Q fuel (listed.setIfInBounds i true) s' w') [] a w' → wpAnyIn (Fw none) 0 P .any ops (upQ n Q) fuel (listed.setIfInBounds i true) a w' := by
    rintro a w' ⟨s', rfl, _, hL⟩
    unfold Li at hL
    exact hL
  have h := Oper.wpIn_mono (fun a w => key) h
  unfold Oper.wpIn at h ⊢
  refine ⟨h.1, ?_⟩
  have h2 := h.2
  generalize (o.semAt (Fw none).round (s.act n).eval).run P w = r at h2
  cases r with
  | ok x w' =>
    cases x <;> simp only [Oper.uponIn] at h2 ⊢ <;> first
      | exact h2
      | exact ⟨h2.1, CallsIn.mono h2.2 (fun e w'' he => by
          cases e with
          | returned v => exact he
          | panicked c => obtain ⟨s', _, he, _⟩ := he; cases he
          | outgrown => exfalso; obtain ⟨_, _, s', _, he, _⟩ := he; cases he)⟩
      | exact ⟨h2.1, RoundIn.mono h2.2 (fun e w'' he => by
          cases e with
          | returned v => exact he
          | panicked c => obtain ⟨s', _, he, _⟩ := he; cases he
          | outgrown => exfalso; obtain ⟨_, _, s', _, he, _⟩ := he; cases he)⟩
  | halt x w' =>
    cases x <;> first
      | (exfalso; simp only [Oper.uponIn] at h2; obtain ⟨s', _, he, _⟩ := h2; cases he)
      | exact h2
end
section
variable {P : Program} {n : Nat} {Q : Post} {s : Fm} {w : World} {ops : Array Oper} {fuel : Nat} {listed : Array Bool}
def noG (o : Oper) : Oper := { o with guard := none }
theorem I_opG (i : Nat) {o : Oper} (hi : ops[i]? = some o) (h : L none P n ops (fun e s' w' => e = .normal ∧ Li P n ops Q fuel (listed.setIfInBounds i true) s' w') [noG o] s w) (hw : wantB ops n s o.guard = true) : Iop P n ops Q fuel listed i s w := by
  refine I_opW i hi ?_ hw
  cases o with
  | mk d op ty pos af g =>
    cases g with
    | none => exact h
    | some g => exact L_want hw h
end
section
variable {P : Program} {n : Nat} {Q : Post} {s : Fm} {w : World} {ops : Array Oper} {fuel : Nat} {listed : Array Bool}
theorem I_takeS (i : Nat) {o : Oper} (hi : ops[i]? = some o) (hs : Region.noSelect ops = true) (hf : Region.free .any ops listed i = true) (hr : (Region.ready .any ops listed).contains i = true)
    (hc : noCall o.op = true) (hq : NoPanic Q) (hw : wantB ops n s o.guard = false) (h : Li P n ops Q fuel (listed.setIfInBounds i true) (s.put o.dst undef) w) : Li P n ops Q (fuel + 1) listed s w := by
  unfold Li at h ⊢
  refine wpAnyIn_take (v := undef) rfl hi hs hf hr ?_ ⟨.inr ⟨?_, rfl⟩, fun w => about_none hc w _⟩ ?_
  · intro c a w hp
    obtain ⟨s', _, hp⟩ := hp
    exact absurd hp (hq c s' w)
  · rw [wanted_want]; exact hw
  · rw [act_put]; exact h
end
/-! ### the rest reads only -/
section
variable {P : Program} {n : Nat} {Q : Post} {s : Fm} {w : World} {ops : Array Oper} {fuel : Nat} {listed : Array Bool} {C : World → Prop}
theorem wpIn_quiet {o : Oper} {a : Act} {K : Act → Prop} {K' : Act → World → Prop} {Q' : Exit → Act → World → Prop} (hne : ∀ c, o.op ≠ .defer c) (hw : C w) (h : ∀ a w', C w' → K a → K' a w') (hh : o.quiet P a C K) : o.wpIn (Fw none) 0 P a w K' Q' := by
  obtain ⟨v, h1, h2⟩ := hh
  have h3 := h1 w hw
  unfold Oper.quietAt at h3
  unfold Oper.wpIn
  refine ⟨fun _ _ => trivial, ?_⟩
  rw [Oper.semAt_eq _ _ _ hne]
  generalize (execOp a.eval o).run P w = r at *
  cases r with
  | ok m w' =>
    cases m <;> simp only [Oper.quietUpon] at h3 <;> simp only [Oper.uponIn]
    case value u =>
      obtain ⟨e1, e2⟩ := h3
      rw [e1, e2]
      exact h _ _ hw h2
    case skip =>
      obtain ⟨e1, e2⟩ := h3
      rw [e1, ← e2]
      exact h _ _ hw h2
    case enter f args =>
      obtain ⟨e1, hc⟩ := h3
      rw [e1]
      exact ⟨fun hx => by simp [Fw] at hx, CallsIn.mono (calls_fw.2 hc) fun e w'' ⟨he, hw''⟩ => by subst he; exact h _ _ hw'' h2⟩
  | halt x w' => simp only [Oper.quietUpon] at h3
theorem opIn_quiet {i : Nat} {a : Act} {K : Act → Prop} {K' : Act → World → Prop} {Q' : Exit → Act → World → Prop} (hd : noDefers ops = true) (hC : C w) (h : ∀ a w', C w' → K a → K' a w') (hh : qOp P ops C i K a) : wpOpIn (Fw none) 0 P ops Q' i K' a w := by
  unfold qOp at hh
  unfold wpOpIn
  cases ho : ops[i]? with
  | none => simp only [ho] at hh ⊢; exact h _ _ hC hh
  | some o =>
    simp only [ho] at hh ⊢
    have hne : ∀ c, o.op ≠ .defer c := notDefer_ne (List.all_eq_true.1 hd o (by
      have := Array.mem_of_getElem? ho
      simpa using this))
    split
    · rename_i hw; rw [if_pos hw] at hh; exact wpIn_quiet hne hC h hh
    · rename_i hw; rw [if_neg hw] at hh; exact ⟨fun _ _ => trivial, h _ _ hC hh⟩
theorem anyIn_quiet {K : Act → Prop} {Q' : Exit → Act → World → Prop} (hd : noDefers ops = true) (hQ : ∀ a w, C w → K a → Q' .normal a w) : ∀ (fuel : Nat) (listed : Array Bool) (a : Act) (w : World), C w →
    wpAnyQ P .any ops C K fuel listed a → wpAnyIn (Fw none) 0 P .any ops Q' fuel listed a w
  | 0, _, _, _, hw, h => ⟨h.1, hQ _ _ hw h.2⟩
  | fuel + 1, _, _, _, hw, h => ⟨fun h0 => hQ _ _ hw (h.1 h0), fun i hi => opIn_quiet hd hw (fun a' w' hw' => anyIn_quiet hd hQ fuel _ a' w' hw') (h.2 i hi)⟩
theorem I_quiet (k : Nat) (hf : Nat.beq (ops.toList.drop k).length fuel = true) (hs : Region.noSelect ops = true) (hd : noDefers ops = true) (hB : Region.lexFrom .any ops fuel k listed = true)
    (h : Lq P n ops w (fun s' => ∀ w', Below w.heap.size w w' → Q .normal s' w') (ops.toList.drop k) s) : Li P n ops Q fuel listed s w := by
  obtain rfl := Nat.eq_of_beq_eq_true hf
  unfold Li
  refine anyIn_quiet (C := fun w' => Below w.heap.size w w') (K := fun a => ∃ s', a = Fm.act n s' ∧ ∀ w', Below w.heap.size w w' → Q .normal s' w') hd ?_ _ _ _ _ (Below.refl _ _) ?_
  · rintro a w' hw' ⟨s', rfl, hK⟩
    exact ⟨s', rfl, hK w' hw'⟩
  · unfold Lq at h
    exact wpAnyQ_lex hs _ k _ _ (fun j => by rw [List.getElem?_drop]; simp) hB h
end
theorem flat_oneN {α : Type} (enc : α → List Value) (ys : List α) (h1 : ∀ x ∈ ys, (enc x).all (·.oneCell') = true) : ∀ u ∈ ys.flatMap enc, u.oneCell' = true := by
  intro u hu
  obtain ⟨x, hx, hv⟩ := List.mem_flatMap.1 hu
  exact List.all_eq_true.1 (h1 x hx) u hv
section ops
variable {r : Option Nat} {P : Program} {n : Nat} {Q : Post} {s : Fm} {w : World} {ops : Array Oper} {rest : List Oper}
variable {d : Option Tmp} {ty : TypeId} {pos : String} {af : Array Edge}
/-- A slice appended to a row of the call's own, whose elements hold slices. -/
theorem L_appAllN {α : Type} {A X : Operand} {T E k bytes : Nat} {enc : α → List Value} (he : Elem P T E k bytes) (B : Nat) (v vx : Value) (xs ys : List α) (hB : B ≤ w.heap.size)
    (hrow : Row w B E k enc v xs) (hx : Rd w enc vx ys) (hm : (xs.length + ys.length) * bytes ≤ 140737488355328) (hk : ∀ x, (enc x).length = k) (h1 : ∀ x ∈ ys, (enc x).all (·.oneCell') = true) (hby : Nat.blt 0 bytes = true)
    (hA : s.ev n A = v) (hX : s.ev n X = vx)
    (h : ∀ v' w', Row w' B E k enc v' (xs ++ ys) → w.grownBy w' v.ownBlock → (v'.ownBlock = v.ownBlock ∨ v'.ownBlock = some w.heap.size) → L r P n ops Q rest (s.put d v') w') :
    L r P n ops Q (⟨d, .call ⟨.builtin .append, #[A, X], #[T, T]⟩, ty, pos, af, none⟩ :: rest) s w := by
  obtain ⟨i, hq, hz, hks, hbys, z, hzz, hzs⟩ : ∃ i, P.info? E = some i ∧ i.zero.map (fun z => z.cells.size) = some k ∧ i.size = k ∧ i.bytes = bytes ∧ ∃ z, i.zero = some z ∧ z.cells.size = k := by
    have h := he.hi
    cases hq : P.info? E with
    | none => rw [hq] at h; cases h
    | some i =>
      rw [hq] at h
      simp only [Option.map_some, Option.some.injEq, Prod.mk.injEq] at h
      obtain ⟨h1, h2, h3⟩ := h
      cases hz : i.zero with
      | none => rw [hz] at h1; cases h1
      | some z => rw [hz] at h1; exact ⟨i, rfl, by rw [hz]; exact h1, h2, h3, z, hz, by simpa using h1⟩
  have hkp : 0 < k := by have := he.hk; simpa using this
  have hbp : 0 < bytes := by simpa using hby
  obtain ⟨a, c, rfl, hcells⟩ := hx
  rcases Nat.eq_zero_or_pos ys.length with h0 | h0
  · obtain rfl : ys = [] := List.eq_nil_of_length_eq_zero h0
    have hrun : (Builtin.append_ #[T, T] ty #[v, .slice a 0 c]).run P w = .ok v w := by
      obtain ⟨_, hr⟩ := hrow
      rcases hr with ⟨rfl, h3⟩ | ⟨g, cap, cur, rfl, hg, hh, hnc, hcm, hcs, htake⟩
      · cases a <;> simp [Builtin.append_, run_underlying he.ht, sizeOf, typeInfo, hq, Builtin.lenOf, Builtin.firstCells, loadCells, loadCellsFrom]
      · cases a <;> simp [Builtin.append_, run_underlying he.ht, sizeOf, typeInfo, hq, Builtin.lenOf, Builtin.firstCells, loadCells, loadCellsFrom, hnc, storeCells]
    refine L_val v w (by simp) ?_ (h v w (by rw [List.append_nil]; exact hrow) ⟨rfl, rfl, rfl, Nat.le_refl _, fun _ _ _ => rfl⟩ (.inl rfl))
    simp only [execOp, resolve, invoke, builtin, Sem.run_bind, Sem.run_pure, Result.andThen_ok, List.map_toArray, List.map_cons, List.map_nil, hA, hX, List.length_nil, hrun]
  · rcases hcells with hc | ⟨g, off, rfl, hc⟩
    · omega
    · have hm2 : xs.length + ys.length ≤ maxLen := by
        have : (xs.length + ys.length) * 1 ≤ (xs.length + ys.length) * bytes := Nat.mul_le_mul_left _ hbp
        unfold maxLen; omega
      obtain ⟨v', w', hrun, hrow', hgrow, _, hwhere⟩ := run_append_own2 (P := P) w B T ty E i z k bytes he.ht hq hzz hks hbys hzs hkp v xs.length (xs.flatMap enc) hrow ⟨g, off, none⟩ ys.length c (ys.flatMap enc)
        (flat_len enc k hk ys) (fun j u hu => by rw [add_lit]; exact hc j u hu) (flat_oneN enc ys h1) hm2 hm hB
      refine L_val v' w' (by simp) ?_ (h v' w' ?_ hgrow hwhere)
      · simp only [execOp, resolve, invoke, builtin, Sem.run_bind, Sem.run_pure, Result.andThen_ok, List.map_toArray, List.map_cons, List.map_nil, hA, hX, hrun]
      · unfold Row
        rw [List.length_append, List.flatMap_append]
        exact hrow'
end ops
theorem one_line {F : Nat} {w : World} {B E k : Nat} {v : Value} {xs : List LineV} (h : NRow F w B E k encLine v xs) : ∀ x ∈ xs, (encLine x).all (·.oneCell') = true := fun x hx => by
  have := (h.2 x hx).one
  unfold encLine
  simp only [List.all_cons, List.all_nil, this]
  rfl
end Go.FK
