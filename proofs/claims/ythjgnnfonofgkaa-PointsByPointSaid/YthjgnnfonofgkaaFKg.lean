/- FKg: ranges over functions, over functional frames: what an iterator promises ('Iter'), a call of yield, the statement 'for .. := range f', a function's end behind such statements. Rests on the kit's RangeFunc laws. My own text. -/
import Derived.Test.YthjgnnfonofgkaaFKf
import Derived.RangeFuncNested
import Derived.RangeFuncLeaves
import Derived.RangeFuncCalls
namespace Go.FK
open Go Go.RowKit

/-- B is A but for blocks of D, and new blocks. -/
structure Ch (D : Nat → Prop) (A B : World) : Prop where
  os : B.os = A.os
  tape : B.tape = A.tape
  output : B.output = A.output
  size : A.heap.size ≤ B.heap.size
  same : ∀ k, k < A.heap.size → ¬ D k → B.heap[k]? = A.heap[k]?
def Iv (K0 K k : Nat) : Prop := K0 ≤ k ∧ k < K
theorem Ch.of_below {A B : World} (h : Below A.heap.size A B) : Ch (fun _ => False) A B := ⟨h.os, h.tape, h.output, h.size, fun k hk _ => h.block k hk⟩
theorem Ch.of_wrote {A B : World} {b : Nat} {o : Obj} (h : Wrote A B b o) : Ch (fun k => k = b) A B := ⟨h.os, h.tape, h.output, Nat.le_of_eq h.size.symm, fun k _ hn => h.other k hn⟩
theorem Ch.of_grown {A B : World} {row : Option Nat} (h : A.grownBy B row) : Ch (fun k => row = some k) A B := ⟨h.os, h.tape, h.output, h.size, fun k hk hn => h.block k hk (fun e => hn e.symm)⟩
theorem Ch.mono {D D' : Nat → Prop} {A B : World} (h : Ch D A B) (hd : ∀ k, D k → D' k) : Ch D' A B := ⟨h.os, h.tape, h.output, h.size, fun k hk hn => h.same k hk (fun e => hn (hd k e))⟩
theorem Ch.trans {D : Nat → Prop} {A B C : World} (h : Ch D A B) (k : Ch D B C) : Ch D A C :=
  ⟨k.os.trans h.os, k.tape.trans h.tape, k.output.trans h.output, Nat.le_trans h.size k.size, fun i hi hn => (k.same i (Nat.lt_of_lt_of_le hi h.size) hn).trans (h.same i hi hn)⟩
theorem Ch.refl (D : Nat → Prop) (A : World) : Ch D A A := ⟨rfl, rfl, rfl, Nat.le_refl _, fun _ _ _ => rfl⟩
theorem Ch.below {D : Nat → Prop} {A B w : World} {n : Nat} (h : Ch D A B) (hb : Below n w A) (hn : n ≤ A.heap.size) (hd : ∀ k, D k → n ≤ k) : Below n w B :=
  hb.trans ⟨h.os, h.tape, h.output, h.size, fun k hk => h.same k (by omega) (fun e => by have := hd k e; omega)⟩
theorem obj_ch {D : Nat → Prop} {A B : World} {k : Nat} {o : Obj} (h : A.heap[k]? = some o) (hc : Ch D A B) (hn : ¬ D k) : B.heap[k]? = some o := (hc.same k (obj_lt h) hn).trans h
theorem Row.ch {α : Type} {D : Nat → Prop} {w w' : World} {B E k : Nat} {enc : α → List Value} {v : Value} {xs : List α} (h : Row w B E k enc v xs) (hc : Ch D w w') (hn : ∀ g, v.ownBlock = some g → ¬ D g) : Row w' B E k enc v xs := by
  refine ⟨h.1, ?_⟩
  rcases h.2 with h2 | ⟨g, cap, cur, hv, hg, hh, r⟩
  · exact .inl h2
  · exact .inr ⟨g, cap, cur, hv, hg, obj_ch hh hc (hn g (by rw [hv]; rfl)), r⟩
/-- What a round must leave alone. -/
structure Kp (K0 K : Nat) (A B : World) : Prop where
  size : A.heap.size ≤ B.heap.size
  same : ∀ k, Iv K0 K k → B.heap[k]? = A.heap[k]?
theorem Kp.refl (K0 K : Nat) (A : World) : Kp K0 K A A := ⟨Nat.le_refl _, fun _ _ => rfl⟩
theorem Kp.ch {K0 K : Nat} {D : Nat → Prop} {S A B : World} (h : Kp K0 K S A) (hc : Ch D A B) (hK : K ≤ A.heap.size) (hn : ∀ k, D k → ¬ Iv K0 K k) : Kp K0 K S B :=
  ⟨Nat.le_trans h.size hc.size, fun k hk => (hc.same k (by have := hk.2; omega) (fun e => hn k e hk)).trans (h.same k hk)⟩
theorem Kp.narrow {K0 K0' K : Nat} {A B : World} (h : Kp K0 K A B) (hk : K0 ≤ K0') : Kp K0' K A B := ⟨h.size, fun k hk' => h.same k ⟨Nat.le_trans hk hk'.1, hk'.2⟩⟩
theorem Row.kp {α : Type} {K0 K : Nat} {w w' : World} {B E k : Nat} {enc : α → List Value} {v : Value} {xs : List α} (h : Row w B E k enc v xs) (hc : Kp K0 K w w') (hn : ∀ g, v.ownBlock = some g → Iv K0 K g) : Row w' B E k enc v xs := by
  refine ⟨h.1, ?_⟩
  rcases h.2 with h2 | ⟨g, cap, cur, hv, hg, hh, r⟩
  · exact .inl h2
  · exact .inr ⟨g, cap, cur, hv, hg, (hc.same g (hn g (by rw [hv]; rfl))).trans hh, r⟩

/-- WHAT AN ITERATOR PROMISES: it hands yield the elements 'els', in their order, till a round says no; it turns only blocks of its own, all of them laid before the first round; N: what it reads of the caller's memory. -/
def Iter {α : Type} (P : Program) (g : FuncId) (lb : List Value) (encs : α → List Value) (els : List α) (N : World → Prop) : Prop :=
  ∀ (l : Nat) (J Jx : Nat → List α → World → Prop) (w : World), N w →
    (∀ A, Below w.heap.size w A → J A.heap.size [] A) →
    (∀ K pre A B, J K pre A → Ch (Iv w.heap.size K) A B → J K pre B) →
    (∀ K pre A B, Jx K pre A → Ch (Iv w.heap.size K) A B → Jx K pre B) →
    (∀ K pre x A, J K pre A → N A → w.heap.size ≤ K → K ≤ A.heap.size → pre ++ [x] <+: els → YieldAt (Fw none) 0 P l (encs x).toArray A fun e A' =>
      (e = .returned (.bool true) ∧ J K (pre ++ [x]) A' ∧ Kp w.heap.size K A A' ∧ N A') ∨ (e = .returned (.bool false) ∧ Jx K (pre ++ [x]) A' ∧ Kp w.heap.size K A A')) →
    Calls P g (.func (.yield l) #[] #[] :: lb).toArray w (Ret fun _ w' => w.heap.size ≤ w'.heap.size ∧ ((∃ K, J K els w') ∨ (∃ K pre x, pre ++ [x] <+: els ∧ Jx K (pre ++ [x]) w')))

section
variable {P : Program} {n : Nat} {Q : Post} {s : Fm} {w : World} {ops : Array Oper} {rest : List Oper}
variable {d : Option Tmp} {ty : TypeId} {pos : String} {af : Array Edge}

theorem round_any {F : Fence} {m m' : Nat} {l : Nat} {f : FuncId} {tmps : Array Value} {assign body : Code} {R : Ending → World → Prop} (hd : F.depth = none) (h : RoundIn F m P l f tmps assign body w R) : RoundIn F m' P l f tmps assign body w R :=
  ⟨h.1, fun c cs _ => h.2 c cs (fun d hd' => by rw [hd] at hd'; cases hd')⟩

/-- A call of yield. -/
theorem L_yield {op : Op} {R : Ending → World → Prop} (l : Nat) (args : List Value) (hrun : (execOp (s.ev n) ⟨d, op, ty, pos, af, none⟩).run P w = (Instr.yield l args.toArray).run P w) (hd : notDefer op = true)
    (hy : YieldAt (Fw none) 0 P l args.toArray w R) (hR : ∀ e w', R e w' → ∃ b, e = .returned (.bool b) ∧ L none P n ops Q rest (s.put d (.bool b)) w') : L none P n ops Q (⟨d, op, ty, pos, af, none⟩ :: rest) s w := by
  obtain ⟨fn, tmps, assign, body, hyr, hround⟩ := hy
  have h0 : (execOp (s.ev n) ⟨d, op, ty, pos, af, none⟩).run P w = .ok (.round l fn tmps assign body) w := hrun.trans hyr
  refine L_step rfl (notDefer_ne hd) ?_
  rw [h0]
  refine ⟨fun hx => by simp [Fw] at hx, ?_⟩
  refine (round_any rfl hround).mono ?_
  intro e w' hr
  obtain ⟨b, rfl, hL⟩ := hR e w' hr
  show wpListIn (Fw none) 0 P ops (upQ n Q) rest ((s.act n).put d (.bool b)) w'
  rw [act_put]; exact L_iff.1 hL
end

/-! ### the function's end, marks and all -/
def Lv (P : Program) (fn : Func) (n : Nat) (R : Value → World → Prop) (s : Fm) (ds : List Deferred) (w : World) : Prop :=
  LeavesInM (Fw none) 0 P fn (s.act n).tmps (Ret R) ds .returning w
def endM (P : Program) (fn : Func) (n : Nat) (R : Value → World → Prop) : Post
  | .normal, s, w | .ret, s, w => Lv P fn n R s s.ds w
  | _, _, _ => False
section
variable {P : Program} {n : Nat} {Q : Post} {s : Fm} {w : World} {fn : Func} {R : Value → World → Prop}
theorem Lv_nil (rs : List ResultVar) (vs : List Value) (hr : fn.results = rs.toArray) (h : resOk P n s w rs vs)
    (hR : R (match vs with | [v] => v | _ => .tuple vs.toArray) w) : Lv P fn n R s [] w :=
  ⟨_, results_run hr h, _, rfl, hR⟩
theorem Lv_mark {D : Nat} {ds : List Deferred} (hD : w.heap[D]? = some (.deferred (some []))) (h : ∀ w', Wrote w w' D (.deferred none) → Lv P fn n R s ds w') : Lv P fn n R s (⟨.collected D, #[]⟩ :: ds) w := by
  refine ⟨by simp, .inl ⟨D, _, rfl, run_takeDeferred hD, h _ ⟨rfl, rfl, rfl, by simp [World.putObj], World.putObj_heap_same (obj_lt hD), fun k hk => World.putObj_heap_other hk⟩⟩⟩
theorem end_retM {ds : List Deferred} (hd : s.ds = ds) (h : Lv P fn n R s ds w) : endM P fn n R .ret s w := by subst hd; exact h
theorem end_normalM {ds : List Deferred} (hd : s.ds = ds) (h : Lv P fn n R s ds w) : endM P fn n R .normal s w := by subst hd; exact h

theorem enterM {f : FuncId} {c : Code} {args : List Value} {k : Nat} (hf : P.funcs[f]? = some fn) (hb : fn.body = some c) (hn : fn.ntmps = k) (hk : Nat.ble args.length k = true)
    (h : W none P k c (endM P fn k R) ⟨fun i => args.getD i undef, []⟩ w) : Calls P f args.toArray w (Ret R) := by
  have hk' : args.length ≤ k := by simpa using hk
  refine calls_fw.1 (callsIn_of_wp_marks (F := Fw none) (n := 0) hf hb trivial ?_)
  have ha : ({ tmps := args.toArray ++ Array.replicate (fn.ntmps - args.toArray.size) undef, defers := [] } : Act) = Fm.act k ⟨fun i => args.getD i undef, []⟩ := by
    simp only [Fm.act]
    congr 1
    apply Array.ext
    · simp; omega
    · intro i h1 h2
      simp only [Array.size_ofFn] at h2
      simp only [Array.getElem_ofFn]
      by_cases hi : i < args.length
      · rw [Array.getElem_append_left (by simpa using hi)]
        simp [hi]
      · rw [Array.getElem_append_right (by simpa using hi)]
        simp [hi]
  rw [ha]
  refine wpIn_mono (W_iff.1 h) ?_
  rintro e a w ⟨s, rfl, hs⟩
  cases e with
  | normal => exact hs
  | ret => exact hs
  | exit _ => exact hs.elim
  | goto _ => exact hs.elim
  | panic _ => exact hs.elim
  | outgrown => exact hs.elim
end

/-! ### 'for .. := range f' -/
def Fm.puts (s : Fm) : List (Tmp × Value) → Fm
  | [] => s
  | (t, v) :: l => (s.put (some t) v).puts l
theorem puts_act (n : Nat) : ∀ (l : List (Tmp × Value)) (s : Fm), l.foldl (fun t (p : Tmp × Value) => t.setIfInBounds p.1 p.2) (s.act n).tmps = ((s.puts l).act n).tmps := by
  intro l
  induction l with
  | nil => intro s; rfl
  | cons p l ih =>
    intro s
    obtain ⟨t, v⟩ := p
    rw [List.foldl_cons]
    have : (s.act n).tmps.setIfInBounds t v = ((s.put (some t) v).act n).tmps := by
      have := act_put n s (some t) v
      simp only [Act.put] at this
      exact congrArg Act.tmps this
    rw [this]
    exact ih _
theorem puts_ds : ∀ (l : List (Tmp × Value)) (s : Fm), (s.puts l).ds = s.ds := by
  intro l
  induction l with
  | nil => intro s; rfl
  | cons p l ih => intro s; obtain ⟨t, v⟩ := p; exact (ih _).trans rfl

/-- How a round may be left. -/
def roundQ {α : Type} (K0 K : Nat) (I : Nat → List α → World → Prop) (Ix : Nat → Code → List α → World → Prop) (N : World → Prop) (xs : List α) (w2 : World) : Post
  | .normal, _, w3 => Kp K0 K w2 w3 ∧ I K xs w3 ∧ N w3
  | .ret, _, w3 => Kp K0 K w2 w3 ∧ Ix K .ret xs w3
  | .exit id, _, w3 => Kp K0 K w2 w3 ∧ Ix K (.exit id) xs w3
  | .goto t, _, w3 => Kp K0 K w2 w3 ∧ Ix K (.goto t) xs w3
  | _, _, _ => False

section rounds
variable {α : Type} {K0 K : Nat} {I : Nat → List α → World → Prop} {Ix : Nat → Code → List α → World → Prop} {N : World → Prop} {xs : List α} {w2 w3 : World} {s : Fm}
theorem round_normal (hk : Kp K0 K w2 w3) (hN : N w3) (hi : I K xs w3) : roundQ K0 K I Ix N xs w2 .normal s w3 := ⟨hk, hi, hN⟩
theorem round_ret (hk : Kp K0 K w2 w3) (hi : Ix K .ret xs w3) : roundQ K0 K I Ix N xs w2 .ret s w3 := ⟨hk, hi⟩
theorem round_exit {id : Nat} (hk : Kp K0 K w2 w3) (hi : Ix K (.exit id) xs w3) : roundQ K0 K I Ix N xs w2 (.exit id) s w3 := ⟨hk, hi⟩
theorem round_goto {id : Nat} (hk : Kp K0 K w2 w3) (hi : Ix K (.goto id) xs w3) : roundQ K0 K I Ix N xs w2 (.goto id) s w3 := ⟨hk, hi⟩
theorem nr_old {β : Type} {w : World} {B E k : Nat} {enc : β → List Value} {v : Value} {ys : List β} (h : Row w B E k enc v ys) (K : Nat) : ∀ g, v.ownBlock = some g → ¬ Iv w.heap.size K g :=
  fun g hg hiv => by have := (World.ownsRow.lt h g hg).2; have := hiv.1; omega
theorem nr_nil (K0 K : Nat) : ∀ g, (Value.slice none 0 0).ownBlock = some g → ¬ Iv K0 K g := by simp [Value.ownBlock]
theorem nr_new {n b : Nat} {v : Value} (h : v.ownBlock = some b) (hb : n ≤ b) (hK : K ≤ n) : ∀ g, v.ownBlock = some g → ¬ Iv K0 K g :=
  fun g hg hiv => by rw [h] at hg; cases hg; have := hiv.2; omega
theorem nr_app {n : Nat} {v v' : Value} (how : v'.ownBlock = v.ownBlock ∨ v'.ownBlock = some (n + 1)) (hn : ∀ g, v.ownBlock = some g → ¬ Iv K0 K g) (hK : K ≤ n) : ∀ g, v'.ownBlock = some g → ¬ Iv K0 K g := by
  intro g hg hiv
  rcases how with h | h
  · exact hn g (by rw [← h]; exact hg) hiv
  · rw [h] at hg; cases hg; have := hiv.2; omega
/-- A row that a call made lies beyond what was there. -/
theorem nr_row {β : Type} {w : World} {n E k : Nat} {enc : β → List Value} {v : Value} {ys : List β} (h : Row w n E k enc v ys) (hK : K ≤ n) : ∀ g, v.ownBlock = some g → ¬ Iv K0 K g :=
  fun g hg hiv => by have := (World.ownsRow.lt h g hg).1; have := hiv.2; omega
end rounds
section
variable {P : Program} {n : Nat} {Q : Post} {s : Fm} {w : World}
theorem W_range {α : Type} {g : Operand} {ps : List Tmp} {assign body : Code} (gf : FuncId) (lb : List Value) {encs : α → List Value} (els : List α) {N : World → Prop}
    (hg : s.ev n g = .func (.func gf) #[] lb.toArray) (eg : ∀ args w, (callFunc gf args).run P w = .ok (.enter gf args) w)
    (hit : Iter P gf lb encs els N) (hN : N w) (hNs : ∀ D A B, N A → Ch D A B → (∀ k, D k → w.heap.size ≤ k) → N B) (hps : ∀ x, (encs x).length = ps.length)
    (I : Nat → List α → World → Prop) (Ix : Nat → Code → List α → World → Prop)
    (h0 : ∀ A, Below w.heap.size w A → I A.heap.size [] A)
    (hI : ∀ K pre A B, I K pre A → Ch (Iv w.heap.size K) A B → I K pre B)
    (hIx : ∀ K c pre A B, Ix K c pre A → Ch (Iv w.heap.size K) A B → Ix K c pre B)
    (hround : ∀ l K pre x A, I K pre A → N A → w.heap.size ≤ K → K ≤ A.heap.size → pre ++ [x] <+: els →
      W (some l) P n assign (thenQ (fun s1 w1 => Kp w.heap.size K A w1 ∧ ∀ w2, Ch (Iv w.heap.size K) w1 w2 → W (some l) P n body (roundQ w.heap.size K I Ix N (pre ++ [x]) w2) s1 w2) (fun _ _ _ => False))
        ((⟨s.f, []⟩ : Fm).puts (ps.zip (encs x))) A)
    (hdone : ∀ K A, I K els A → w.heap.size ≤ A.heap.size → A.heap[w.heap.size]? = some (.deferred (some [])) → Q .normal ⟨s.f, ⟨.collected w.heap.size, #[]⟩ :: s.ds⟩ A)
    (hstop : ∀ K c pre x A, pre ++ [x] <+: els → Ix K c (pre ++ [x]) A → w.heap.size ≤ A.heap.size → A.heap[w.heap.size]? = some (.deferred (some [])) → W none P n c Q ⟨s.f, ⟨.collected w.heap.size, #[]⟩ :: s.ds⟩ A) :
    W none P n (.rangeFunc g ps.toArray assign body) Q s w := by
  refine W_iff.2 (wpIn_rangeFunc ?_)
  intro fn hfn
  obtain ⟨rec, hrec⟩ : ∃ rec : LoopState → Option Code → Loop, rec = fun st pe => { state := st, pending := pe, fn, tmps := (s.act n).tmps, params := ps.toArray, assign, body, defers := w.heap.size } := ⟨_, rfl⟩
  obtain ⟨W1, hW1⟩ : ∃ W1, (w.alloc (.deferred (some []))).alloc (.loop (rec .ready none)) = W1 := ⟨_, rfl⟩
  have hsz1 : W1.heap.size = w.heap.size + 2 := by rw [← hW1]; simp
  have hL1 : W1.heap[w.heap.size + 1]? = some (.loop (rec .ready none)) := by
    rw [← hW1]; have := World.alloc_heap_new (w.alloc (.deferred (some []))) (.loop (rec .ready none)); rwa [World.size_alloc] at this
  have hK1 : W1.heap[w.heap.size]? = some (.deferred (some [])) := by
    rw [← hW1]; exact (Below.heap_alloc _ _ _ (by simp)).trans (World.alloc_heap_new w _)
  have hb1 : Below w.heap.size w W1 := by
    rw [← hW1]; exact ((Below.refl _ w).alloc (Nat.le_refl _) _).alloc (by simp) _
  refine ⟨w.heap.size + 1, [{ target := .collected w.heap.size, args := #[] }], W1, { target := .fn (.func gf) lb.toArray, args := #[.func (.yield (w.heap.size + 1)) #[] #[]] }, W1, gf,
    #[.func (.yield (w.heap.size + 1)) #[] #[]] ++ lb.toArray, W1, ?_, ?_, ?_, ?_, fun hx => by simp [Fw] at hx, ?_⟩
  · rw [← hW1, hrec]; exact run_enterLoop_outer _ _ _ _ _
  · rw [act_eval]
    simp only [resolve, List.map_toArray, List.map_cons, List.map_nil, hg]
    rfl
  · intro f' _; trivial
  · simp only [invoke, eg]
  · have hN1 : N W1 := hNs _ _ _ hN ((Ch.of_below hb1)) (fun _ h => h.elim)
    have hput : ∀ (K : Nat) (A : World) (k : Nat) (o o' : Obj), A.heap[k]? = some o → Iv w.heap.size K k → Ch (Iv w.heap.size K) A (A.putObj k o') := fun K A k o o' hk hiv =>
      ⟨rfl, rfl, rfl, by simp [World.putObj], fun j _ hn => World.putObj_heap_other (fun e => hn (e ▸ hiv))⟩
    have hivm : ∀ {K k : Nat}, Iv W1.heap.size K k → Iv w.heap.size K k := fun h => ⟨by have := h.1; omega, h.2⟩
    have hcall := hit (w.heap.size + 1)
      (fun K pre A => I K pre A ∧ w.heap.size + 2 ≤ K ∧ A.heap[w.heap.size + 1]? = some (.loop (rec .ready none)) ∧ A.heap[w.heap.size]? = some (.deferred (some [])))
      (fun K pre A => ∃ c, Ix K c pre A ∧ w.heap.size + 2 ≤ K ∧ A.heap[w.heap.size + 1]? = some (.loop (rec .done (some c))) ∧ A.heap[w.heap.size]? = some (.deferred (some [])))
      W1 hN1
      (fun A hA => ⟨h0 A (hb1.trans (hA.mono (by omega))), by have := hA.size; omega, (hA.block _ (by omega)).trans hL1, (hA.block _ (by omega)).trans hK1⟩)
      (fun K pre A B hs hc => ⟨hI K pre A B hs.1 (hc.mono fun k h => hivm h), hs.2.1, obj_ch hs.2.2.1 hc (fun h => by have := h.1; omega), obj_ch hs.2.2.2 hc (fun h => by have := h.1; omega)⟩)
      (fun K pre A B hs hc => by
        obtain ⟨c, h1, h2, h3, h4⟩ := hs
        exact ⟨c, hIx K c pre A B h1 (hc.mono fun k h => hivm h), h2, obj_ch h3 hc (fun h => by have := h.1; omega), obj_ch h4 hc (fun h => by have := h.1; omega)⟩)
      ?_
    · refine CallsIn.mono (calls_fw.2 (by simpa using hcall)) ?_
      rintro e W2 ⟨v, rfl, hsz, (⟨K, hi, h2, hl, hk⟩ | ⟨K, pre, x, hpre, c, hi, h2, hl, hk⟩)⟩
      · refine ⟨none, _, by have := run_endLoop (P := P) hl (by rw [hrec]; simp); rw [hrec] at this; exact this, ?_⟩
        have hp := hput K W2 (w.heap.size + 1) _ (.loop { rec .ready none with state := .exhausted }) hl ⟨by omega, by omega⟩
        rw [hrec] at hp
        exact ⟨⟨s.f, _⟩, rfl, hdone K _ (hI _ _ _ _ hi hp) (Nat.le_trans (show w.heap.size ≤ W2.heap.size by omega) hp.size) ((World.putObj_heap_other (by omega)).trans hk)⟩
      · refine ⟨some c, _, by have := run_endLoop (P := P) hl (by rw [hrec]; simp); rw [hrec] at this; exact this, ?_⟩
        have hp := hput K W2 (w.heap.size + 1) _ (.loop { rec .done (some c) with state := .exhausted }) hl ⟨by omega, by omega⟩
        rw [hrec] at hp
        exact W_iff.1 (hstop K c pre x _ hpre (hIx _ _ _ _ _ hi hp) (Nat.le_trans (show w.heap.size ≤ W2.heap.size by omega) hp.size) ((World.putObj_heap_other (by omega)).trans hk))
    · -- one round
      rintro K pre x A ⟨hi, h2, hl, hk⟩ hNA hK0 hKA hpre
      have hiv1 : Iv w.heap.size K (w.heap.size + 1) := ⟨by omega, by omega⟩
      have hiv0 : Iv w.heap.size K w.heap.size := ⟨Nat.le_refl _, by omega⟩
      have hlt : w.heap.size + 1 < A.heap.size := obj_lt hl
      have hy := run_yield (P := P) (args := (encs x).toArray) hl (by rw [hrec]; simpa using hps x)
      rw [hrec] at hy
      refine ⟨fn, _, assign, body, hy, roundIn_of_wpIn hfn ?_⟩
      have hfr : (({ tmps := (Array.zip ps.toArray (encs x).toArray).foldl (fun tmps (t, a) => tmps.setIfInBounds t a) (s.act n).tmps, defers := [] } : Act)) = ((⟨s.f, []⟩ : Fm).puts (ps.zip (encs x))).act n := by
        have e := puts_act n (ps.zip (encs x)) ⟨s.f, []⟩
        have e2 : (s.act n).tmps = ((⟨s.f, []⟩ : Fm).act n).tmps := rfl
        rw [e2]
        have e3 : (Array.zip ps.toArray (encs x).toArray) = (ps.zip (encs x)).toArray := by simp
        rw [e3]
        show Act.mk _ _ = Act.mk _ _
        congr 1
        · rw [List.foldl_toArray]; exact e
        · exact (puts_ds (ps.zip (encs x)) ⟨s.f, []⟩).symm
      rw [hfr]
      refine wpIn_mono (W_iff.1 (hround (w.heap.size + 1) K pre x A hi hNA (by omega) hKA hpre)) ?_
      rintro e a1 w1 ⟨s1, rfl, hs1⟩
      cases e with
      | normal =>
        obtain ⟨hkp, hbody⟩ := hs1
        have hl1 : w1.heap[w.heap.size + 1]? = some (.loop (rec .ready none)) := (hkp.same _ hiv1).trans hl
        have hk1 : w1.heap[w.heap.size]? = some (.deferred (some [])) := (hkp.same _ hiv0).trans hk
        refine ⟨_, run_beginRound hl1 (by rw [hrec]), ?_⟩
        have hp := hput K w1 (w.heap.size + 1) _ (.loop { rec .ready none with state := .busy }) hl1 hiv1
        have hl2 : (w1.putObj (w.heap.size + 1) (.loop { rec .ready none with state := .busy })).heap[w.heap.size + 1]? = some (.loop { rec .ready none with state := .busy }) := World.putObj_heap_same (obj_lt hl1)
        have hk2 : (w1.putObj (w.heap.size + 1) (.loop { rec .ready none with state := .busy })).heap[w.heap.size]? = some (.deferred (some [])) := (World.putObj_heap_other (by omega)).trans hk1
        refine wpIn_mono (W_iff.1 (hbody _ hp)) ?_
        have fin : ∀ (jump : Option Code) (W3 : World), Kp w.heap.size K (w1.putObj (w.heap.size + 1) (.loop { rec .ready none with state := .busy })) W3 →
            (Instr.endRound (w.heap.size + 1) jump).run P W3 = .ok (.bool jump.isNone) (W3.putObj (w.heap.size + 1) (.loop (rec (if jump.isNone then .ready else .done) jump))) ∧
            (W3.putObj (w.heap.size + 1) (.loop (rec (if jump.isNone then .ready else .done) jump))).heap[w.heap.size + 1]? = some (.loop (rec (if jump.isNone then .ready else .done) jump)) ∧
            (W3.putObj (w.heap.size + 1) (.loop (rec (if jump.isNone then .ready else .done) jump))).heap[w.heap.size]? = some (.deferred (some [])) ∧
            Ch (Iv w.heap.size K) W3 (W3.putObj (w.heap.size + 1) (.loop (rec (if jump.isNone then .ready else .done) jump))) ∧
            Kp W1.heap.size K A (W3.putObj (w.heap.size + 1) (.loop (rec (if jump.isNone then .ready else .done) jump))) := fun jump W3 hk3 => by
          have hl3 := (hk3.same _ hiv1).trans hl2
          have hr := run_endRound (P := P) jump hl3
          rw [hrec] at hr ⊢
          refine ⟨hr, World.putObj_heap_same (obj_lt hl3), (World.putObj_heap_other (by omega)).trans ((hk3.same _ hiv0).trans hk2), hput K W3 _ _ _ hl3 hiv1, ⟨?_, fun k hkk => ?_⟩⟩
          · have h1 := hkp.size; have h2 := hp.size; have h3 := hk3.size
            simp only [World.putObj, Array.size_setIfInBounds] at h2 h3 ⊢
            omega
          · have hkne : k ≠ w.heap.size + 1 := by have := hkk.1; omega
            have hkk' : Iv w.heap.size K k := hivm hkk
            exact (World.putObj_heap_other hkne).trans ((hk3.same k hkk').trans ((World.putObj_heap_other hkne).trans (hkp.same k hkk')))
        rintro e3 a3 W3 ⟨s3, rfl, hq3⟩
        cases e3 with
        | normal =>
          obtain ⟨hk3, hi3, hN3⟩ := hq3
          obtain ⟨hr, hl4, hk4, hc4, hkp4⟩ := fin none W3 hk3
          exact ⟨_, _, hr, .inl ⟨rfl, ⟨hI _ _ _ _ hi3 hc4, h2, hl4, hk4⟩, hkp4, hNs _ _ _ hN3 hc4 (fun k h => h.1)⟩⟩
        | ret =>
          obtain ⟨hk3, hi3⟩ := hq3
          obtain ⟨hr, hl4, hk4, hc4, hkp4⟩ := fin (some .ret) W3 hk3
          exact ⟨_, _, hr, .inr ⟨rfl, ⟨.ret, hIx _ _ _ _ _ hi3 hc4, h2, hl4, hk4⟩, hkp4⟩⟩
        | exit id =>
          obtain ⟨hk3, hi3⟩ := hq3
          obtain ⟨hr, hl4, hk4, hc4, hkp4⟩ := fin (some (.exit id)) W3 hk3
          exact ⟨_, _, hr, .inr ⟨rfl, ⟨.exit id, hIx _ _ _ _ _ hi3 hc4, h2, hl4, hk4⟩, hkp4⟩⟩
        | goto t =>
          obtain ⟨hk3, hi3⟩ := hq3
          obtain ⟨hr, hl4, hk4, hc4, hkp4⟩ := fin (some (.goto t)) W3 hk3
          exact ⟨_, _, hr, .inr ⟨rfl, ⟨.goto t, hIx _ _ _ _ _ hi3 hc4, h2, hl4, hk4⟩, hkp4⟩⟩
        | panic _ => exact hq3.elim
        | outgrown => exact hq3.elim
      | _ => exact hs1.elim
end
attribute [irreducible] endM Lv
end Go.FK
