/- FKah: an iterator whose rounds may lay blocks of its own that outlast the caller's turn: the caller's round leaves alone what was laid since its last turn. My own text; W_range2 is W_range (FKg) with that promise. -/
import Derived.Test.YthjgnnfonofgkaaFKag
set_option linter.unusedVariables false
namespace Go.FK
open Go Go.RowKit
section
variable {r : Option Nat} {P : Program} {n : Nat} {Q : Post} {s : Fm} {w : World} {ops : Array Oper} {rest : List Oper}
variable {d : Option Tmp} {ty : TypeId} {pos : String} {af : Array Edge}
/-- A call of yield, in a round too. -/
theorem L_yieldR {op : Op} {R : Ending → World → Prop} (l : Nat) (args : List Value) (hrun : (execOp (s.ev n) ⟨d, op, ty, pos, af, none⟩).run P w = (Instr.yield l args.toArray).run P w) (hd : notDefer op = true)
    (hy : YieldAt (Fw none) 0 P l args.toArray w R) (hR : ∀ e w', R e w' → ∃ b, e = .returned (.bool b) ∧ L r P n ops Q rest (s.put d (.bool b)) w') : L r P n ops Q (⟨d, op, ty, pos, af, none⟩ :: rest) s w := by
  obtain ⟨fn, tmps, assign, body, hyr, hround⟩ := hy
  have h0 : (execOp (s.ev n) ⟨d, op, ty, pos, af, none⟩).run P w = .ok (.round l fn tmps assign body) w := hrun.trans hyr
  refine L_step rfl (notDefer_ne hd) ?_
  rw [h0]
  refine ⟨fun hx => by simp [Fw] at hx, ?_⟩
  have hround2 : RoundIn (Fw r) 0 P l fn tmps assign body w R := hround
  refine (round_any rfl hround2).mono ?_
  intro e w' hr
  obtain ⟨b, rfl, hL⟩ := hR e w' hr
  show wpListIn (Fw r) 0 P ops (upQ n Q) rest ((s.act n).put d (.bool b)) w'
  rw [act_put]; exact L_iff.1 hL
end
/-- As Iter; at a yield the caller was last on its turn in world A0, and leaves alone what has been laid since. -/
def Iter2 {α : Type} (P : Program) (g : FuncId) (lb : List Value) (encs : α → List Value) (els : List α) (N : World → Prop) : Prop :=
  ∀ (l : Nat) (J Jx : Nat → List α → World → Prop) (w : World), N w →
    (∀ A, Below w.heap.size w A → J A.heap.size [] A) →
    (∀ K pre A B, J K pre A → Ch (Iv w.heap.size K) A B → J K pre B) →
    (∀ K pre A B, Jx K pre A → Ch (Iv w.heap.size K) A B → Jx K pre B) →
    (∀ K pre x A0 A, J K pre A0 → Ch (Iv w.heap.size K) A0 A → N A → w.heap.size ≤ K → K ≤ A0.heap.size → pre ++ [x] <+: els → YieldAt (Fw none) 0 P l (encs x).toArray A fun e A' =>
      (e = .returned (.bool true) ∧ J K (pre ++ [x]) A' ∧ Kp w.heap.size K A A' ∧ Kp A0.heap.size A.heap.size A A' ∧ N A') ∨ (e = .returned (.bool false) ∧ Jx K (pre ++ [x]) A' ∧ Kp w.heap.size K A A')) →
    Calls P g (.func (.yield l) #[] #[] :: lb).toArray w (Ret fun _ w' => w.heap.size ≤ w'.heap.size ∧ ((∃ K, J K els w') ∨ (∃ K pre x, pre ++ [x] <+: els ∧ Jx K (pre ++ [x]) w')))
/-- How such a round may be left. -/
def roundQ2 {α : Type} (K0 K K1 K2 : Nat) (I : Nat → List α → World → Prop) (Ix : Nat → Code → List α → World → Prop) (N : World → Prop) (xs : List α) (w2 : World) : Post
  | .normal, _, w3 => Kp K0 K w2 w3 ∧ Kp K1 K2 w2 w3 ∧ I K xs w3 ∧ N w3
  | .ret, _, w3 => Kp K0 K w2 w3 ∧ Ix K .ret xs w3
  | .exit id, _, w3 => Kp K0 K w2 w3 ∧ Ix K (.exit id) xs w3
  | .goto t, _, w3 => Kp K0 K w2 w3 ∧ Ix K (.goto t) xs w3
  | _, _, _ => False
section
variable {α : Type} {K0 K K1 K2 : Nat} {I : Nat → List α → World → Prop} {Ix : Nat → Code → List α → World → Prop} {N : World → Prop} {xs : List α} {w2 w3 : World} {s : Fm}
theorem round2_normal (hk : Kp K0 K w2 w3) (hk2 : Kp K1 K2 w2 w3) (hN : N w3) (hi : I K xs w3) : roundQ2 K0 K K1 K2 I Ix N xs w2 .normal s w3 := ⟨hk, hk2, hi, hN⟩
theorem round2_ret (hk : Kp K0 K w2 w3) (hi : Ix K .ret xs w3) : roundQ2 K0 K K1 K2 I Ix N xs w2 .ret s w3 := ⟨hk, hi⟩
theorem round2_exit {id : Nat} (hk : Kp K0 K w2 w3) (hi : Ix K (.exit id) xs w3) : roundQ2 K0 K K1 K2 I Ix N xs w2 (.exit id) s w3 := ⟨hk, hi⟩
theorem noPanic_round2 : NoPanic (roundQ2 K0 K K1 K2 I Ix N xs w2) := fun c s w hq => hq
/-- A row that was there lies below what has been laid since. -/
theorem nr_since {β : Type} {A0 : World} {B E k : Nat} {enc : β → List Value} {v : Value} {ys : List β} (h : Row A0 B E k enc v ys) (K : Nat) : ∀ g, v.ownBlock = some g → ¬ Iv A0.heap.size K g := fun g hg hiv => by
  have := (World.ownsRow.lt h g hg).2; have := hiv.1; omega
end
section
variable {P : Program} {n : Nat} {Q : Post} {s : Fm} {w : World}
theorem W_range2 {α : Type} {g : Operand} {ps : List Tmp} {assign body : Code} (gf : FuncId) (lb : List Value) {encs : α → List Value} (els : List α) {N : World → Prop}
    (hg : s.ev n g = .func (.func gf) #[] lb.toArray) (eg : ∀ args w, (callFunc gf args).run P w = .ok (.enter gf args) w)
    (hit : Iter2 P gf lb encs els N) (hN : N w) (hNs : ∀ D A B, N A → Ch D A B → (∀ k, D k → w.heap.size ≤ k) → N B) (hps : ∀ x, (encs x).length = ps.length)
    (I : Nat → List α → World → Prop) (Ix : Nat → Code → List α → World → Prop)
    (h0 : ∀ A, Below w.heap.size w A → w.heap.size < A.heap.size → I A.heap.size [] A)
    (hI : ∀ K pre A B, I K pre A → Ch (Iv w.heap.size K) A B → I K pre B)
    (hIx : ∀ K c pre A B, Ix K c pre A → Ch (Iv w.heap.size K) A B → Ix K c pre B)
    (hround : ∀ l K pre x A0 A, I K pre A0 → Ch (Iv w.heap.size K) A0 A → N A → w.heap.size ≤ K → K ≤ A0.heap.size → pre ++ [x] <+: els →
      W (some l) P n assign (thenQ (fun s1 w1 => Kp w.heap.size K A w1 ∧ Kp A0.heap.size A.heap.size A w1 ∧ ∀ w2, Ch (Iv w.heap.size K) w1 w2 → W (some l) P n body (roundQ2 w.heap.size K A0.heap.size A.heap.size I Ix N (pre ++ [x]) w2) s1 w2) (fun _ _ _ => False))
        ((⟨s.f, []⟩ : Fm).puts (ps.zip (encs x))) A)
    (hdone : ∀ K A, I K els A → w.heap.size ≤ A.heap.size → A.heap[w.heap.size]? = some (.deferred (some [])) → Q .normal ⟨s.f, ⟨.collected w.heap.size, #[]⟩ :: s.ds⟩ A)
    (hstop : ∀ K c pre x A, pre ++ [x] <+: els → Ix K c (pre ++ [x]) A → w.heap.size ≤ A.heap.size → A.heap[w.heap.size]? = some (.deferred (some [])) → W none P n c Q ⟨s.f, ⟨.collected w.heap.size, #[]⟩ :: s.ds⟩ A) :
    W none P n (.rangeFunc g ps.toArray assign body) Q s w := by
  refine W_iff.2 (wpIn_rangeFunc ?_)
  intro fn hfn
  obtain ⟨rec, hrec⟩ : ∃ rec : LoopState → Option Code → Loop, rec = fun st pe => { state := st, pending := pe, fn, tmps := (s.act n).tmps, params := ps.toArray, assign, body, defers := w.heap.size } := ⟨_, rfl⟩
  obtain ⟨W1, hW1⟩ : ∃ W1, (w.alloc (.deferred (some []))).alloc (.loop (rec .ready none)) = W1 := ⟨_, rfl⟩
  have hsz1 : W1.heap.size = w.heap.size + 2 := by rw [← hW1]; simp
  have hL1 : W1.heap[w.heap.size + 1]? = some (.loop (rec .ready none)) := by
    rw [← hW1]; have := World.alloc_heap_new (w.alloc (.deferred (some []))) (.loop (rec .ready none)); rwa [World.size_alloc] at this
  have hK1 : W1.heap[w.heap.size]? = some (.deferred (some [])) := by
    rw [← hW1]; exact (Below.heap_alloc _ _ _ (by simp)).trans (World.alloc_heap_new w _)
  have hb1 : Below w.heap.size w W1 := by
    rw [← hW1]; exact ((Below.refl _ w).alloc (Nat.le_refl _) _).alloc (by simp) _
  refine ⟨w.heap.size + 1, [{ target := .collected w.heap.size, args := #[] }], W1, { target := .fn (.func gf) lb.toArray, args := #[.func (.yield (w.heap.size + 1)) #[] #[]] }, W1, gf,
    #[.func (.yield (w.heap.size + 1)) #[] #[]] ++ lb.toArray, W1, ?_, ?_, ?_, ?_, fun hx => by simp [Fw] at hx, ?_⟩
  · rw [← hW1, hrec]; exact run_enterLoop_outer _ _ _ _ _
  · rw [act_eval]
    simp only [resolve, List.map_toArray, List.map_cons, List.map_nil, hg]
    rfl
  · intro f' _; trivial
  · simp only [invoke, eg]
  · have hN1 : N W1 := hNs _ _ _ hN ((Ch.of_below hb1)) (fun _ h => h.elim)
    have hput : ∀ (K : Nat) (A : World) (k : Nat) (o o' : Obj), A.heap[k]? = some o → Iv w.heap.size K k → Ch (Iv w.heap.size K) A (A.putObj k o') := fun K A k o o' hk hiv =>
      ⟨rfl, rfl, rfl, by simp [World.putObj], fun j _ hn => World.putObj_heap_other (fun e => hn (e ▸ hiv))⟩
    have hivm : ∀ {K k : Nat}, Iv W1.heap.size K k → Iv w.heap.size K k := fun h => ⟨by have := h.1; omega, h.2⟩
    have hcall := hit (w.heap.size + 1)
      (fun K pre A => I K pre A ∧ w.heap.size + 2 ≤ K ∧ A.heap[w.heap.size + 1]? = some (.loop (rec .ready none)) ∧ A.heap[w.heap.size]? = some (.deferred (some [])))
      (fun K pre A => ∃ c, Ix K c pre A ∧ w.heap.size + 2 ≤ K ∧ A.heap[w.heap.size + 1]? = some (.loop (rec .done (some c))) ∧ A.heap[w.heap.size]? = some (.deferred (some [])))
      W1 hN1
      (fun A hA => ⟨h0 A (hb1.trans (hA.mono (by omega))) (by have := hA.size; omega), by have := hA.size; omega, (hA.block _ (by omega)).trans hL1, (hA.block _ (by omega)).trans hK1⟩)
      (fun K pre A B hs hc => ⟨hI K pre A B hs.1 (hc.mono fun k h => hivm h), hs.2.1, obj_ch hs.2.2.1 hc (fun h => by have := h.1; omega), obj_ch hs.2.2.2 hc (fun h => by have := h.1; omega)⟩)
      (fun K pre A B hs hc => by
        obtain ⟨c, h1, h2, h3, h4⟩ := hs
        exact ⟨c, hIx K c pre A B h1 (hc.mono fun k h => hivm h), h2, obj_ch h3 hc (fun h => by have := h.1; omega), obj_ch h4 hc (fun h => by have := h.1; omega)⟩)
      ?_
    · refine CallsIn.mono (calls_fw.2 (by simpa using hcall)) ?_
      rintro e W2 ⟨v, rfl, hsz, (⟨K, hi, h2, hl, hk⟩ | ⟨K, pre, x, hpre, c, hi, h2, hl, hk⟩)⟩
      · refine ⟨none, _, by have := run_endLoop (P := P) hl (by rw [hrec]; simp); rw [hrec] at this; exact this, ?_⟩
        have hp := hput K W2 (w.heap.size + 1) _ (.loop { rec .ready none with state := .exhausted }) hl ⟨by omega, by omega⟩
        rw [hrec] at hp
        exact ⟨⟨s.f, _⟩, rfl, hdone K _ (hI _ _ _ _ hi hp) (Nat.le_trans (show w.heap.size ≤ W2.heap.size by omega) hp.size) ((World.putObj_heap_other (by omega)).trans hk)⟩
      · refine ⟨some c, _, by have := run_endLoop (P := P) hl (by rw [hrec]; simp); rw [hrec] at this; exact this, ?_⟩
        have hp := hput K W2 (w.heap.size + 1) _ (.loop { rec .done (some c) with state := .exhausted }) hl ⟨by omega, by omega⟩
        rw [hrec] at hp
        exact W_iff.1 (hstop K c pre x _ hpre (hIx _ _ _ _ _ hi hp) (Nat.le_trans (show w.heap.size ≤ W2.heap.size by omega) hp.size) ((World.putObj_heap_other (by omega)).trans hk))
    · -- one round
      rintro K pre x A0 A ⟨hi, h2, hl0, hk0⟩ hch hNA hK0 hKA0 hpre
      have hlt0 : w.heap.size + 1 < A0.heap.size := obj_lt hl0
      have hl := obj_ch hl0 hch (fun h => by have := h.1; omega)
      have hk := obj_ch hk0 hch (fun h => by have := h.1; omega)
      have hKA : K ≤ A.heap.size := Nat.le_trans hKA0 hch.size
      have hiv1 : Iv w.heap.size K (w.heap.size + 1) := ⟨by omega, by omega⟩
      have hiv0 : Iv w.heap.size K w.heap.size := ⟨Nat.le_refl _, by omega⟩
      have hlt : w.heap.size + 1 < A.heap.size := obj_lt hl
      have hy := run_yield (P := P) (args := (encs x).toArray) hl (by rw [hrec]; simpa using hps x)
      rw [hrec] at hy
      refine ⟨fn, _, assign, body, hy, roundIn_of_wpIn hfn ?_⟩
      have hfr : (({ tmps := (Array.zip ps.toArray (encs x).toArray).foldl (fun tmps (t, a) => tmps.setIfInBounds t a) (s.act n).tmps, defers := [] } : Act)) = ((⟨s.f, []⟩ : Fm).puts (ps.zip (encs x))).act n := by
        have e := puts_act n (ps.zip (encs x)) ⟨s.f, []⟩
        have e2 : (s.act n).tmps = ((⟨s.f, []⟩ : Fm).act n).tmps := rfl
        rw [e2]
        have e3 : (Array.zip ps.toArray (encs x).toArray) = (ps.zip (encs x)).toArray := by simp
        rw [e3]
        show Act.mk _ _ = Act.mk _ _
        congr 1
        · rw [List.foldl_toArray]; exact e
        · exact (puts_ds (ps.zip (encs x)) ⟨s.f, []⟩).symm
      rw [hfr]
      refine wpIn_mono (W_iff.1 (hround (w.heap.size + 1) K pre x A0 A hi (hch.mono fun k h => hivm h) hNA (by omega) hKA0 hpre)) ?_
      rintro e a1 w1 ⟨s1, rfl, hs1⟩
      cases e with
      | normal =>
        obtain ⟨hkp, hkq, hbody⟩ := hs1
        have hl1 : w1.heap[w.heap.size + 1]? = some (.loop (rec .ready none)) := (hkp.same _ hiv1).trans hl
        have hk1 : w1.heap[w.heap.size]? = some (.deferred (some [])) := (hkp.same _ hiv0).trans hk
        refine ⟨_, run_beginRound hl1 (by rw [hrec]), ?_⟩
        have hp := hput K w1 (w.heap.size + 1) _ (.loop { rec .ready none with state := .busy }) hl1 hiv1
        have hl2 : (w1.putObj (w.heap.size + 1) (.loop { rec .ready none with state := .busy })).heap[w.heap.size + 1]? = some (.loop { rec .ready none with state := .busy }) := World.putObj_heap_same (obj_lt hl1)
        have hk2 : (w1.putObj (w.heap.size + 1) (.loop { rec .ready none with state := .busy })).heap[w.heap.size]? = some (.deferred (some [])) := (World.putObj_heap_other (by omega)).trans hk1
        refine wpIn_mono (W_iff.1 (hbody _ hp)) ?_
        have fin : ∀ (jump : Option Code) (W3 : World), Kp w.heap.size K (w1.putObj (w.heap.size + 1) (.loop { rec .ready none with state := .busy })) W3 →
            (Instr.endRound (w.heap.size + 1) jump).run P W3 = .ok (.bool jump.isNone) (W3.putObj (w.heap.size + 1) (.loop (rec (if jump.isNone then .ready else .done) jump))) ∧
            (W3.putObj (w.heap.size + 1) (.loop (rec (if jump.isNone then .ready else .done) jump))).heap[w.heap.size + 1]? = some (.loop (rec (if jump.isNone then .ready else .done) jump)) ∧
            (W3.putObj (w.heap.size + 1) (.loop (rec (if jump.isNone then .ready else .done) jump))).heap[w.heap.size]? = some (.deferred (some [])) ∧
            Ch (Iv w.heap.size K) W3 (W3.putObj (w.heap.size + 1) (.loop (rec (if jump.isNone then .ready else .done) jump))) ∧
            Kp W1.heap.size K A (W3.putObj (w.heap.size + 1) (.loop (rec (if jump.isNone then .ready else .done) jump))) := fun jump W3 hk3 => by
          have hl3 := (hk3.same _ hiv1).trans hl2
          have hr := run_endRound (P := P) jump hl3
          rw [hrec] at hr ⊢
          refine ⟨hr, World.putObj_heap_same (obj_lt hl3), (World.putObj_heap_other (by omega)).trans ((hk3.same _ hiv0).trans hk2), hput K W3 _ _ _ hl3 hiv1, ⟨?_, fun k hkk => ?_⟩⟩
          · have h1 := hkp.size; have h2 := hp.size; have h3 := hk3.size
            simp only [World.putObj, Array.size_setIfInBounds] at h2 h3 ⊢
            omega
          · have hkne : k ≠ w.heap.size + 1 := by have := hkk.1; omega
            have hkk' : Iv w.heap.size K k := hivm hkk
            exact (World.putObj_heap_other hkne).trans ((hk3.same k hkk').trans ((World.putObj_heap_other hkne).trans (hkp.same k hkk')))
        have fin2 : ∀ (o : Obj) (W3 : World), Kp A0.heap.size A.heap.size (w1.putObj (w.heap.size + 1) (.loop { rec .ready none with state := .busy })) W3 → A.heap.size ≤ (W3.putObj (w.heap.size + 1) o).heap.size → Kp A0.heap.size A.heap.size A (W3.putObj (w.heap.size + 1) o) := fun o W3 hk3 hsz => by
          refine ⟨hsz, fun k hkk => ?_⟩
          have hkne : k ≠ w.heap.size + 1 := by have := hkk.1; omega
          exact (World.putObj_heap_other hkne).trans ((hk3.same k hkk).trans ((World.putObj_heap_other hkne).trans (hkq.same k hkk)))
        rintro e3 a3 W3 ⟨s3, rfl, hq3⟩
        cases e3 with
        | normal =>
          obtain ⟨hk3, hk3b, hi3, hN3⟩ := hq3
          obtain ⟨hr, hl4, hk4, hc4, hkp4⟩ := fin none W3 hk3
          exact ⟨_, _, hr, .inl ⟨rfl, ⟨hI _ _ _ _ hi3 hc4, h2, hl4, hk4⟩, hkp4, fin2 _ W3 hk3b hkp4.size, hNs _ _ _ hN3 hc4 (fun k h => h.1)⟩⟩
        | ret =>
          obtain ⟨hk3, hi3⟩ := hq3
          obtain ⟨hr, hl4, hk4, hc4, hkp4⟩ := fin (some .ret) W3 hk3
          exact ⟨_, _, hr, .inr ⟨rfl, ⟨.ret, hIx _ _ _ _ _ hi3 hc4, h2, hl4, hk4⟩, hkp4⟩⟩
        | exit id =>
          obtain ⟨hk3, hi3⟩ := hq3
          obtain ⟨hr, hl4, hk4, hc4, hkp4⟩ := fin (some (.exit id)) W3 hk3
          exact ⟨_, _, hr, .inr ⟨rfl, ⟨.exit id, hIx _ _ _ _ _ hi3 hc4, h2, hl4, hk4⟩, hkp4⟩⟩
        | goto t =>
          obtain ⟨hk3, hi3⟩ := hq3
          obtain ⟨hr, hl4, hk4, hc4, hkp4⟩ := fin (some (.goto t)) W3 hk3
          exact ⟨_, _, hr, .inr ⟨rfl, ⟨.goto t, hIx _ _ _ _ _ hi3 hc4, h2, hl4, hk4⟩, hkp4⟩⟩
        | panic _ => exact hq3.elim
        | outgrown => exact hq3.elim
      | _ => exact hs1.elim
end
end Go.FK
