/- Joined by my program pack2.py out of my own texts: FKag FKah Wgpa FKai FKan FKat PStp Wgpr FKau. -/
import Derived.Test.YthjgnnfonofgkaaProg
import Derived.Tactics2
import Derived.RangeFuncBound
import Derived.Test.YthjgnnfonofgkaaR1
import Derived.Test.YthjgnnfonofgkaaR2
set_option linter.unusedVariables false
set_option linter.unusedSimpArgs false
/- === FKag === -/
section
/- FKag: a range over an iterator inside an iterator: the first round comes behind blocks of its own. My own text; W_rangeN is wQ (FKg) with one fact more handed on. -/
namespace Go.FK
open Go Go.RowKit
theorem Kp.trans {K0 K : Nat} {A B C : World} (h : Kp K0 K A B) (k : Kp K0 K B C) : Kp K0 K A C := ⟨Nat.le_trans h.size k.size, fun i hi => (k.same i hi).trans (h.same i hi)⟩
section
variable {P : Program} {n : Nat} {Q : Post} {s : Fm} {w : World}
theorem W_rangeN {α : Type} {g : Operand} {ps : List Tmp} {assign body : Code} (gf : FuncId) (lb : List Value) {encs : α → List Value} (els : List α) {N : World → Prop}
  (hg : s.ev n g = .func (.func gf) #[] lb.toArray) (eg : ∀ args w, (callFunc gf args).run P w = .ok (.enter gf args) w)
  (hit : Iter P gf lb encs els N) (hN : N w) (hNs : ∀ D A B, N A → Ch D A B → (∀ k, D k → w.heap.size ≤ k) → N B) (hps : ∀ x, (encs x).length = ps.length)
  (I : Nat → List α → World → Prop) (Ix : Nat → Code → List α → World → Prop)
  (h0 : ∀ A, Below w.heap.size w A → w.heap.size < A.heap.size → I A.heap.size [] A)
  (hI : ∀ K pre A B, I K pre A → Ch (Iv w.heap.size K) A B → I K pre B)
  (hIx : ∀ K c pre A B, Ix K c pre A → Ch (Iv w.heap.size K) A B → Ix K c pre B)
  (hround : ∀ l K pre x A, I K pre A → N A → w.heap.size ≤ K → K ≤ A.heap.size → pre ++ [x] <+: els →
   W (some l) P n assign (thenQ (fun s1 w1 => Kp w.heap.size K A w1 ∧ ∀ w2, Ch (Iv w.heap.size K) w1 w2 → W (some l) P n body (roundQ w.heap.size K I Ix N (pre ++ [x]) w2) s1 w2) (fun _ _ _ => False))
    ((⟨s.f, []⟩ : Fm).puts (ps.zip (encs x))) A)
  (hdone : ∀ K A, I K els A → w.heap.size ≤ A.heap.size → A.heap[w.heap.size]? = some (.deferred (some [])) → Q .normal ⟨s.f, ⟨.collected w.heap.size, #[]⟩ :: s.ds⟩ A)
  (hstop : ∀ K c pre x A, pre ++ [x] <+: els → Ix K c (pre ++ [x]) A → w.heap.size ≤ A.heap.size → A.heap[w.heap.size]? = some (.deferred (some [])) → W none P n c Q ⟨s.f, ⟨.collected w.heap.size, #[]⟩ :: s.ds⟩ A) :
  W none P n (.rangeFunc g ps.toArray assign body) Q s w := by
 refine W_iff.2 (wpIn_rangeFunc ?_)
 intro fn hfn
 obtain ⟨rec, hrec⟩ : ∃ rec : LoopState → Option Code → Loop, rec = fun st pe => { state := st, pending := pe, fn, tmps := (s.act n).tmps, params := ps.toArray, assign, body, defers := w.heap.size } := ⟨_, rfl⟩
 obtain ⟨W1, y⟩ : ∃ W1, (w.alloc (.deferred (some []))).alloc (.loop (rec .ready none)) = W1 := ⟨_, rfl⟩
 have ar : W1.heap.size = w.heap.size + 2 := by rw [← y]; simp
 have an : W1.heap[w.heap.size + 1]? = some (.loop (rec .ready none)) := by
  rw [← y]; have := World.alloc_heap_new (w.alloc (.deferred (some []))) (.loop (rec .ready none)); rwa [World.size_alloc] at this
 have am : W1.heap[w.heap.size]? = some (.deferred (some [])) := by
  rw [← y]; exact (Below.heap_alloc _ _ _ (by simp)).trans (World.alloc_heap_new w _)
 have ae : Below w.heap.size w W1 := by
  rw [← y]; exact ((Below.refl _ w).alloc (Nat.le_refl _) _).alloc (by simp) _
 refine ⟨w.heap.size + 1, [{ target := .collected w.heap.size, args := #[] }], W1, { target := .fn (.func gf) lb.toArray, args := #[.func (.yield (w.heap.size + 1)) #[] #[]] }, W1, gf,
  #[.func (.yield (w.heap.size + 1)) #[] #[]] ++ lb.toArray, W1, ?_, ?_, ?_, ?_, fun hx => by simp [Fw] at hx, ?_⟩
 ·rw [← y, hrec]; exact run_enterLoop_outer _ _ _ _ _
 ·rw [wJ]
  simp only [resolve, List.map_toArray, List.map_cons, List.map_nil, hg]
  rfl
 ·intro f' _; trivial
 ·simp only [invoke, eg]
 ·have ai : N W1 := hNs _ _ _ hN ((Ch.of_below ae)) (fun _ h => h.elim)
  have hput : ∀ (K : Nat) (A : World) (k : Nat) (o o' : Obj), A.heap[k]? = some o → Iv w.heap.size K k → Ch (Iv w.heap.size K) A (A.putObj k o') := fun K A k o o' hk hiv =>
   ⟨rfl, rfl, rfl, by simp [World.putObj], fun j _ hn => World.putObj_heap_other (fun e => hn (e ▸ hiv))⟩
  have hivm : ∀ {K k : Nat}, Iv W1.heap.size K k → Iv w.heap.size K k := fun h => ⟨by have := h.1; omega, h.2⟩
  have hcall := hit (w.heap.size + 1)
   (fun K pre A => I K pre A ∧ w.heap.size + 2 ≤ K ∧ A.heap[w.heap.size + 1]? = some (.loop (rec .ready none)) ∧ A.heap[w.heap.size]? = some (.deferred (some [])))
   (fun K pre A => ∃ c, Ix K c pre A ∧ w.heap.size + 2 ≤ K ∧ A.heap[w.heap.size + 1]? = some (.loop (rec .done (some c))) ∧ A.heap[w.heap.size]? = some (.deferred (some [])))
   W1 ai
   (fun A hA => ⟨h0 A (ae.trans (hA.mono (by omega))) (by have := hA.size; omega), by have := hA.size; omega, (hA.block _ (by omega)).trans an, (hA.block _ (by omega)).trans am⟩)
   (fun K pre A B hs hc => ⟨hI K pre A B hs.1 (hc.mono fun k h => hivm h), hs.2.1, zL hs.2.2.1 hc (fun h => by have := h.1; omega), zL hs.2.2.2 hc (fun h => by have := h.1; omega)⟩)
   (fun K pre A B hs hc => by
    obtain ⟨c, h1, z, h3, h4⟩ := hs
    exact ⟨c, hIx K c pre A B h1 (hc.mono fun k h => hivm h), z, zL h3 hc (fun h => by have := h.1; omega), zL h4 hc (fun h => by have := h.1; omega)⟩)
   ?_
  ·refine CallsIn.mono (calls_fw.2 (by simpa using hcall)) ?_
   rintro e W2 ⟨v, rfl, hsz, (⟨K, hi, z, hl, hk⟩ | ⟨K, pre, x, hpre, c, hi, z, hl, hk⟩)⟩
   ·refine ⟨none, _, by have := run_endLoop (P := P) hl (by rw [hrec]; simp); rw [hrec] at this; exact this, ?_⟩
    have hp := hput K W2 (w.heap.size + 1) _ (.loop { rec .ready none with state := .exhausted }) hl ⟨by omega, by omega⟩
    rw [hrec] at hp
    exact ⟨⟨s.f, _⟩, rfl, hdone K _ (hI _ _ _ _ hi hp) (Nat.le_trans (show w.heap.size ≤ W2.heap.size by omega) hp.size) ((World.putObj_heap_other (by omega)).trans hk)⟩
   ·refine ⟨some c, _, by have := run_endLoop (P := P) hl (by rw [hrec]; simp); rw [hrec] at this; exact this, ?_⟩
    have hp := hput K W2 (w.heap.size + 1) _ (.loop { rec .done (some c) with state := .exhausted }) hl ⟨by omega, by omega⟩
    rw [hrec] at hp
    exact W_iff.1 (hstop K c pre x _ hpre (hIx _ _ _ _ _ hi hp) (Nat.le_trans (show w.heap.size ≤ W2.heap.size by omega) hp.size) ((World.putObj_heap_other (by omega)).trans hk))
  ·-- one round
   rintro K pre x A ⟨hi, z, hl, hk⟩ hNA aw hKA hpre
   have r : Iv w.heap.size K (w.heap.size + 1) := ⟨by omega, by omega⟩
   have ab : Iv w.heap.size K w.heap.size := ⟨Nat.le_refl _, by omega⟩
   have hlt : w.heap.size + 1 < A.heap.size := yD hl
   have hy := run_yield (P := P) (args := (encs x).toArray) hl (by rw [hrec]; simpa using hps x)
   rw [hrec] at hy
   refine ⟨fn, _, assign, body, hy, roundIn_of_wpIn hfn ?_⟩
   have hfr : (({ tmps := (Array.zip ps.toArray (encs x).toArray).foldl (fun tmps (t, a) => tmps.setIfInBounds t a) (s.act n).tmps, defers := [] } : Act)) = ((⟨s.f, []⟩ : Fm).puts (ps.zip (encs x))).act n := by
    have e := puts_act n (ps.zip (encs x)) ⟨s.f, []⟩
    have e2 : (s.act n).tmps = ((⟨s.f, []⟩ : Fm).act n).tmps := rfl
    rw [e2]
    have e3 : (Array.zip ps.toArray (encs x).toArray) = (ps.zip (encs x)).toArray := by simp
    rw [e3]
    show Act.mk _ _ = Act.mk _ _
    congr 1
    ·rw [List.foldl_toArray]; exact e
    ·exact (puts_ds (ps.zip (encs x)) ⟨s.f, []⟩).symm
   rw [hfr]
   refine wpIn_mono (W_iff.1 (hround (w.heap.size + 1) K pre x A hi hNA (by omega) hKA hpre)) ?_
   rintro e a1 w1 ⟨s1, rfl, af⟩
   cases e with
   | normal =>
    obtain ⟨hkp, hbody⟩ := af
    have ac : w1.heap[w.heap.size + 1]? = some (.loop (rec .ready none)) := (hkp.same _ r).trans hl
    have aj : w1.heap[w.heap.size]? = some (.deferred (some [])) := (hkp.same _ ab).trans hk
    refine ⟨_, run_beginRound ac (by rw [hrec]), ?_⟩
    have hp := hput K w1 (w.heap.size + 1) _ (.loop { rec .ready none with state := .busy }) ac r
    have al : (w1.putObj (w.heap.size + 1) (.loop { rec .ready none with state := .busy })).heap[w.heap.size + 1]? = some (.loop { rec .ready none with state := .busy }) := World.putObj_heap_same (yD ac)
    have ag : (w1.putObj (w.heap.size + 1) (.loop { rec .ready none with state := .busy })).heap[w.heap.size]? = some (.deferred (some [])) := (World.putObj_heap_other (by omega)).trans aj
    refine wpIn_mono (W_iff.1 (hbody _ hp)) ?_
    have fin : ∀ (jump : Option Code) (W3 : World), Kp w.heap.size K (w1.putObj (w.heap.size + 1) (.loop { rec .ready none with state := .busy })) W3 →
      (Instr.endRound (w.heap.size + 1) jump).run P W3 = .ok (.bool jump.isNone) (W3.putObj (w.heap.size + 1) (.loop (rec (if jump.isNone then .ready else .done) jump))) ∧
      (W3.putObj (w.heap.size + 1) (.loop (rec (if jump.isNone then .ready else .done) jump))).heap[w.heap.size + 1]? = some (.loop (rec (if jump.isNone then .ready else .done) jump)) ∧
      (W3.putObj (w.heap.size + 1) (.loop (rec (if jump.isNone then .ready else .done) jump))).heap[w.heap.size]? = some (.deferred (some [])) ∧
      Ch (Iv w.heap.size K) W3 (W3.putObj (w.heap.size + 1) (.loop (rec (if jump.isNone then .ready else .done) jump))) ∧
      Kp W1.heap.size K A (W3.putObj (w.heap.size + 1) (.loop (rec (if jump.isNone then .ready else .done) jump))) := fun jump W3 b => by
     have ad := (b.same _ r).trans al
     have hr := run_endRound (P := P) jump ad
     rw [hrec] at hr ⊢
     refine ⟨hr, World.putObj_heap_same (yD ad), (World.putObj_heap_other (by omega)).trans ((b.same _ ab).trans ag), hput K W3 _ _ _ ad r, ⟨?_, fun k hkk => ?_⟩⟩
     ·have h1 := hkp.size; have z := hp.size; have h3 := b.size
      simp only [World.putObj, Array.size_setIfInBounds] at z h3 ⊢
      omega
     ·have hkne : k ≠ w.heap.size + 1 := by have := hkk.1; omega
      have hkk' : Iv w.heap.size K k := hivm hkk
      exact (World.putObj_heap_other hkne).trans ((b.same k hkk').trans ((World.putObj_heap_other hkne).trans (hkp.same k hkk')))
    rintro e3 a3 W3 ⟨s3, rfl, u⟩
    cases e3 with
    | normal =>
     obtain ⟨b, p, ao⟩ := u
     obtain ⟨hr, m, q, i, d⟩ := fin none W3 b
     exact ⟨_, _, hr, .inl ⟨rfl, ⟨hI _ _ _ _ p i, z, m, q⟩, d, hNs _ _ _ ao i (fun k h => h.1)⟩⟩
    | ret =>
     obtain ⟨b, p⟩ := u
     obtain ⟨hr, m, q, i, d⟩ := fin (some .ret) W3 b
     exact ⟨_, _, hr, .inr ⟨rfl, ⟨.ret, hIx _ _ _ _ _ p i, z, m, q⟩, d⟩⟩
    | exit id =>
     obtain ⟨b, p⟩ := u
     obtain ⟨hr, m, q, i, d⟩ := fin (some (.exit id)) W3 b
     exact ⟨_, _, hr, .inr ⟨rfl, ⟨.exit id, hIx _ _ _ _ _ p i, z, m, q⟩, d⟩⟩
    | goto t =>
     obtain ⟨b, p⟩ := u
     obtain ⟨hr, m, q, i, d⟩ := fin (some (.goto t)) W3 b
     exact ⟨_, _, hr, .inr ⟨rfl, ⟨.goto t, hIx _ _ _ _ _ p i, z, m, q⟩, d⟩⟩
    | panic _ => exact u.elim
    | outgrown => exact u.elim
   | _ => exact af.elim
end
end Go.FK
end

/- === FKah === -/
section
/- FKah: an iterator whose rounds may lay blocks of its own that outlast the caller's turn: the caller's round leaves alone what was laid since its last turn. My own text; W_range2 is wQ (FKg) with that promise. -/
namespace Go.FK
open Go Go.RowKit
section
variable {r : Option Nat} {P : Program} {n : Nat} {Q : Post} {s : Fm} {w : World} {ops : Array Oper} {rest : List Oper}
variable {d : Option Tmp} {ty : TypeId} {pos : String} {af : Array Edge}
theorem L_yieldR {op : Op} {R : Ending → World → Prop} (l : Nat) (args : List Value) (hrun : (execOp (s.ev n) ⟨d, op, ty, pos, af, none⟩).run P w = (Instr.yield l args.toArray).run P w) (hd : notDefer op = true)
  (hy : YieldAt (Fw none) 0 P l args.toArray w R) (hR : ∀ e w', R e w' → ∃ b, e = .returned (.bool b) ∧ L r P n ops Q rest (s.put d (.bool b)) w') : L r P n ops Q (⟨d, op, ty, pos, af, none⟩ :: rest) s w := by
 obtain ⟨fn, tmps, assign, body, hyr, hround⟩ := hy
 have c : (execOp (s.ev n) ⟨d, op, ty, pos, af, none⟩).run P w = .ok (.round l fn tmps assign body) w := hrun.trans hyr
 refine L_step rfl (wZ hd) ?_
 rw [c]
 refine ⟨fun hx => by simp [Fw] at hx, ?_⟩
 have a : RoundIn (Fw r) 0 P l fn tmps assign body w R := hround
 refine (round_any rfl a).mono ?_
 intro e w' hr
 obtain ⟨b, rfl, hL⟩ := hR e w' hr
 show wpListIn (Fw r) 0 P ops (upQ n Q) rest ((s.act n).put d (.bool b)) w'
 rw [qK]; exact L_iff.1 hL
end
def Iter2 {α : Type} (P : Program) (g : FuncId) (lb : List Value) (encs : α → List Value) (els : List α) (N : World → Prop) : Prop :=
  ∀ (l : Nat) (J Jx : Nat → List α → World → Prop) (w : World), N w →
    (∀ A, Below w.heap.size w A → J A.heap.size [] A) →
    (∀ K pre A B, J K pre A → Ch (Iv w.heap.size K) A B → J K pre B) →
    (∀ K pre A B, Jx K pre A → Ch (Iv w.heap.size K) A B → Jx K pre B) →
    (∀ K pre x A0 A, J K pre A0 → Ch (Iv w.heap.size K) A0 A → N A → w.heap.size ≤ K → K ≤ A0.heap.size → pre ++ [x] <+: els → YieldAt (Fw none) 0 P l (encs x).toArray A fun e A' =>
      (e = .returned (.bool true) ∧ J K (pre ++ [x]) A' ∧ Kp w.heap.size K A A' ∧ Kp A0.heap.size A.heap.size A A' ∧ N A') ∨ (e = .returned (.bool false) ∧ Jx K (pre ++ [x]) A' ∧ Kp w.heap.size K A A')) →
    Calls P g (.func (.yield l) #[] #[] :: lb).toArray w (Ret fun _ w' => w.heap.size ≤ w'.heap.size ∧ ((∃ K, J K els w') ∨ (∃ K pre x, pre ++ [x] <+: els ∧ Jx K (pre ++ [x]) w')))
def roundQ2 {α : Type} (K0 K K1 K2 : Nat) (I : Nat → List α → World → Prop) (Ix : Nat → Code → List α → World → Prop) (N : World → Prop) (xs : List α) (w2 : World) : Post
  | .normal, _, w3 => Kp K0 K w2 w3 ∧ Kp K1 K2 w2 w3 ∧ I K xs w3 ∧ N w3
  | .ret, _, w3 => Kp K0 K w2 w3 ∧ Ix K .ret xs w3
  | .exit id, _, w3 => Kp K0 K w2 w3 ∧ Ix K (.exit id) xs w3
  | .goto t, _, w3 => Kp K0 K w2 w3 ∧ Ix K (.goto t) xs w3
  | _, _, _ => False
section
variable {α : Type} {K0 K K1 K2 : Nat} {I : Nat → List α → World → Prop} {Ix : Nat → Code → List α → World → Prop} {N : World → Prop} {xs : List α} {w2 w3 : World} {s : Fm}
theorem round2_normal (hk : Kp K0 K w2 w3) (hk2 : Kp K1 K2 w2 w3) (hN : N w3) (hi : I K xs w3) : roundQ2 K0 K K1 K2 I Ix N xs w2 .normal s w3 := ⟨hk, hk2, hi, hN⟩
theorem round2_exit {id : Nat} (hk : Kp K0 K w2 w3) (hi : Ix K (.exit id) xs w3) : roundQ2 K0 K K1 K2 I Ix N xs w2 (.exit id) s w3 := ⟨hk, hi⟩
theorem nr_since {β : Type} {A0 : World} {B E k : Nat} {enc : β → List Value} {v : Value} {ys : List β} (h : Row A0 B E k enc v ys) (K : Nat) : ∀ g, v.ownBlock = some g → ¬ Iv A0.heap.size K g := fun g hg hiv => by
 have := (World.ownsRow.lt h g hg).2; have := hiv.1; omega
end
section
variable {P : Program} {n : Nat} {Q : Post} {s : Fm} {w : World}
theorem W_range2 {α : Type} {g : Operand} {ps : List Tmp} {assign body : Code} (gf : FuncId) (lb : List Value) {encs : α → List Value} (els : List α) {N : World → Prop}
  (hg : s.ev n g = .func (.func gf) #[] lb.toArray) (eg : ∀ args w, (callFunc gf args).run P w = .ok (.enter gf args) w)
  (hit : Iter2 P gf lb encs els N) (hN : N w) (hNs : ∀ D A B, N A → Ch D A B → (∀ k, D k → w.heap.size ≤ k) → N B) (hps : ∀ x, (encs x).length = ps.length)
  (I : Nat → List α → World → Prop) (Ix : Nat → Code → List α → World → Prop)
  (h0 : ∀ A, Below w.heap.size w A → w.heap.size < A.heap.size → I A.heap.size [] A)
  (hI : ∀ K pre A B, I K pre A → Ch (Iv w.heap.size K) A B → I K pre B)
  (hIx : ∀ K c pre A B, Ix K c pre A → Ch (Iv w.heap.size K) A B → Ix K c pre B)
  (hround : ∀ l K pre x A0 A, I K pre A0 → Ch (Iv w.heap.size K) A0 A → N A → w.heap.size ≤ K → K ≤ A0.heap.size → pre ++ [x] <+: els →
   W (some l) P n assign (thenQ (fun s1 y => Kp w.heap.size K A y ∧ Kp A0.heap.size A.heap.size A y ∧ ∀ w2, Ch (Iv w.heap.size K) y w2 → W (some l) P n body (roundQ2 w.heap.size K A0.heap.size A.heap.size I Ix N (pre ++ [x]) w2) s1 w2) (fun _ _ _ => False))
    ((⟨s.f, []⟩ : Fm).puts (ps.zip (encs x))) A)
  (hdone : ∀ K A, I K els A → w.heap.size ≤ A.heap.size → A.heap[w.heap.size]? = some (.deferred (some [])) → Q .normal ⟨s.f, ⟨.collected w.heap.size, #[]⟩ :: s.ds⟩ A)
  (hstop : ∀ K c pre x A, pre ++ [x] <+: els → Ix K c (pre ++ [x]) A → w.heap.size ≤ A.heap.size → A.heap[w.heap.size]? = some (.deferred (some [])) → W none P n c Q ⟨s.f, ⟨.collected w.heap.size, #[]⟩ :: s.ds⟩ A) :
  W none P n (.rangeFunc g ps.toArray assign body) Q s w := by
 refine W_iff.2 (wpIn_rangeFunc ?_)
 intro fn hfn
 obtain ⟨rec, hrec⟩ : ∃ rec : LoopState → Option Code → Loop, rec = fun st pe => { state := st, pending := pe, fn, tmps := (s.act n).tmps, params := ps.toArray, assign, body, defers := w.heap.size } := ⟨_, rfl⟩
 obtain ⟨W1, z⟩ : ∃ W1, (w.alloc (.deferred (some []))).alloc (.loop (rec .ready none)) = W1 := ⟨_, rfl⟩
 have az : W1.heap.size = w.heap.size + 2 := by rw [← z]; simp
 have ar : W1.heap[w.heap.size + 1]? = some (.loop (rec .ready none)) := by
  rw [← z]; have := World.alloc_heap_new (w.alloc (.deferred (some []))) (.loop (rec .ready none)); rwa [World.size_alloc] at this
 have aq : W1.heap[w.heap.size]? = some (.deferred (some [])) := by
  rw [← z]; exact (Below.heap_alloc _ _ _ (by simp)).trans (World.alloc_heap_new w _)
 have ag : Below w.heap.size w W1 := by
  rw [← z]; exact ((Below.refl _ w).alloc (Nat.le_refl _) _).alloc (by simp) _
 refine ⟨w.heap.size + 1, [{ target := .collected w.heap.size, args := #[] }], W1, { target := .fn (.func gf) lb.toArray, args := #[.func (.yield (w.heap.size + 1)) #[] #[]] }, W1, gf,
  #[.func (.yield (w.heap.size + 1)) #[] #[]] ++ lb.toArray, W1, ?_, ?_, ?_, ?_, fun hx => by simp [Fw] at hx, ?_⟩
 ·rw [← z, hrec]; exact run_enterLoop_outer _ _ _ _ _
 ·rw [wJ]
  simp only [resolve, List.map_toArray, List.map_cons, List.map_nil, hg]
  rfl
 ·intro f' _; trivial
 ·simp only [invoke, eg]
 ·have al : N W1 := hNs _ _ _ hN ((Ch.of_below ag)) (fun _ h => h.elim)
  have hput : ∀ (K : Nat) (A : World) (k : Nat) (o o' : Obj), A.heap[k]? = some o → Iv w.heap.size K k → Ch (Iv w.heap.size K) A (A.putObj k o') := fun K A k o o' hk hiv =>
   ⟨rfl, rfl, rfl, by simp [World.putObj], fun j _ hn => World.putObj_heap_other (fun e => hn (e ▸ hiv))⟩
  have hivm : ∀ {K k : Nat}, Iv W1.heap.size K k → Iv w.heap.size K k := fun h => ⟨by have := h.1; omega, h.2⟩
  have hcall := hit (w.heap.size + 1)
   (fun K pre A => I K pre A ∧ w.heap.size + 2 ≤ K ∧ A.heap[w.heap.size + 1]? = some (.loop (rec .ready none)) ∧ A.heap[w.heap.size]? = some (.deferred (some [])))
   (fun K pre A => ∃ c, Ix K c pre A ∧ w.heap.size + 2 ≤ K ∧ A.heap[w.heap.size + 1]? = some (.loop (rec .done (some c))) ∧ A.heap[w.heap.size]? = some (.deferred (some [])))
   W1 al
   (fun A hA => ⟨h0 A (ag.trans (hA.mono (by omega))) (by have := hA.size; omega), by have := hA.size; omega, (hA.block _ (by omega)).trans ar, (hA.block _ (by omega)).trans aq⟩)
   (fun K pre A B hs hc => ⟨hI K pre A B hs.1 (hc.mono fun k h => hivm h), hs.2.1, zL hs.2.2.1 hc (fun h => by have := h.1; omega), zL hs.2.2.2 hc (fun h => by have := h.1; omega)⟩)
   (fun K pre A B hs hc => by
    obtain ⟨c, h1, h2, h3, h4⟩ := hs
    exact ⟨c, hIx K c pre A B h1 (hc.mono fun k h => hivm h), h2, zL h3 hc (fun h => by have := h.1; omega), zL h4 hc (fun h => by have := h.1; omega)⟩)
   ?_
  ·refine CallsIn.mono (calls_fw.2 (by simpa using hcall)) ?_
   rintro e W2 ⟨v, rfl, hsz, (⟨K, hi, h2, hl, hk⟩ | ⟨K, pre, x, hpre, c, hi, h2, hl, hk⟩)⟩
   ·refine ⟨none, _, by have := run_endLoop (P := P) hl (by rw [hrec]; simp); rw [hrec] at this; exact this, ?_⟩
    have hp := hput K W2 (w.heap.size + 1) _ (.loop { rec .ready none with state := .exhausted }) hl ⟨by omega, by omega⟩
    rw [hrec] at hp
    exact ⟨⟨s.f, _⟩, rfl, hdone K _ (hI _ _ _ _ hi hp) (Nat.le_trans (show w.heap.size ≤ W2.heap.size by omega) hp.size) ((World.putObj_heap_other (by omega)).trans hk)⟩
   ·refine ⟨some c, _, by have := run_endLoop (P := P) hl (by rw [hrec]; simp); rw [hrec] at this; exact this, ?_⟩
    have hp := hput K W2 (w.heap.size + 1) _ (.loop { rec .done (some c) with state := .exhausted }) hl ⟨by omega, by omega⟩
    rw [hrec] at hp
    exact W_iff.1 (hstop K c pre x _ hpre (hIx _ _ _ _ _ hi hp) (Nat.le_trans (show w.heap.size ≤ W2.heap.size by omega) hp.size) ((World.putObj_heap_other (by omega)).trans hk))
  ·-- one round
   rintro K pre x A0 A ⟨hi, h2, af, av⟩ hch hNA a4 ab hpre
   have ax : w.heap.size + 1 < A0.heap.size := yD af
   have hl := zL af hch (fun h => by have := h.1; omega)
   have hk := zL av hch (fun h => by have := h.1; omega)
   have hKA : K ≤ A.heap.size := Nat.le_trans ab hch.size
   have r : Iv w.heap.size K (w.heap.size + 1) := ⟨by omega, by omega⟩
   have ac : Iv w.heap.size K w.heap.size := ⟨Nat.le_refl _, by omega⟩
   have hlt : w.heap.size + 1 < A.heap.size := yD hl
   have hy := run_yield (P := P) (args := (encs x).toArray) hl (by rw [hrec]; simpa using hps x)
   rw [hrec] at hy
   refine ⟨fn, _, assign, body, hy, roundIn_of_wpIn hfn ?_⟩
   have hfr : (({ tmps := (Array.zip ps.toArray (encs x).toArray).foldl (fun tmps (t, a) => tmps.setIfInBounds t a) (s.act n).tmps, defers := [] } : Act)) = ((⟨s.f, []⟩ : Fm).puts (ps.zip (encs x))).act n := by
    have e := puts_act n (ps.zip (encs x)) ⟨s.f, []⟩
    have e2 : (s.act n).tmps = ((⟨s.f, []⟩ : Fm).act n).tmps := rfl
    rw [e2]
    have e3 : (Array.zip ps.toArray (encs x).toArray) = (ps.zip (encs x)).toArray := by simp
    rw [e3]
    show Act.mk _ _ = Act.mk _ _
    congr 1
    ·rw [List.foldl_toArray]; exact e
    ·exact (puts_ds (ps.zip (encs x)) ⟨s.f, []⟩).symm
   rw [hfr]
   refine wpIn_mono (W_iff.1 (hround (w.heap.size + 1) K pre x A0 A hi (hch.mono fun k h => hivm h) hNA (by omega) ab hpre)) ?_
   rintro e a1 y ⟨s1, rfl, ai⟩
   cases e with
   | normal =>
    obtain ⟨hkp, hkq, hbody⟩ := ai
    have ad : y.heap[w.heap.size + 1]? = some (.loop (rec .ready none)) := (hkp.same _ r).trans hl
    have an : y.heap[w.heap.size]? = some (.deferred (some [])) := (hkp.same _ ac).trans hk
    refine ⟨_, run_beginRound ad (by rw [hrec]), ?_⟩
    have hp := hput K y (w.heap.size + 1) _ (.loop { rec .ready none with state := .busy }) ad r
    have ap : (y.putObj (w.heap.size + 1) (.loop { rec .ready none with state := .busy })).heap[w.heap.size + 1]? = some (.loop { rec .ready none with state := .busy }) := World.putObj_heap_same (yD ad)
    have ak : (y.putObj (w.heap.size + 1) (.loop { rec .ready none with state := .busy })).heap[w.heap.size]? = some (.deferred (some [])) := (World.putObj_heap_other (by omega)).trans an
    refine wpIn_mono (W_iff.1 (hbody _ hp)) ?_
    have fin : ∀ (jump : Option Code) (W3 : World), Kp w.heap.size K (y.putObj (w.heap.size + 1) (.loop { rec .ready none with state := .busy })) W3 →
      (Instr.endRound (w.heap.size + 1) jump).run P W3 = .ok (.bool jump.isNone) (W3.putObj (w.heap.size + 1) (.loop (rec (if jump.isNone then .ready else .done) jump))) ∧
      (W3.putObj (w.heap.size + 1) (.loop (rec (if jump.isNone then .ready else .done) jump))).heap[w.heap.size + 1]? = some (.loop (rec (if jump.isNone then .ready else .done) jump)) ∧
      (W3.putObj (w.heap.size + 1) (.loop (rec (if jump.isNone then .ready else .done) jump))).heap[w.heap.size]? = some (.deferred (some [])) ∧
      Ch (Iv w.heap.size K) W3 (W3.putObj (w.heap.size + 1) (.loop (rec (if jump.isNone then .ready else .done) jump))) ∧
      Kp W1.heap.size K A (W3.putObj (w.heap.size + 1) (.loop (rec (if jump.isNone then .ready else .done) jump))) := fun jump W3 b => by
     have ae := (b.same _ r).trans ap
     have hr := run_endRound (P := P) jump ae
     rw [hrec] at hr ⊢
     refine ⟨hr, World.putObj_heap_same (yD ae), (World.putObj_heap_other (by omega)).trans ((b.same _ ac).trans ak), hput K W3 _ _ _ ae r, ⟨?_, fun k hkk => ?_⟩⟩
     ·have h1 := hkp.size; have h2 := hp.size; have h3 := b.size
      simp only [World.putObj, Array.size_setIfInBounds] at h2 h3 ⊢
      omega
     ·have hkne : k ≠ w.heap.size + 1 := by have := hkk.1; omega
      have hkk' : Iv w.heap.size K k := hivm hkk
      exact (World.putObj_heap_other hkne).trans ((b.same k hkk').trans ((World.putObj_heap_other hkne).trans (hkp.same k hkk')))
    have ah : ∀ (o : Obj) (W3 : World), Kp A0.heap.size A.heap.size (y.putObj (w.heap.size + 1) (.loop { rec .ready none with state := .busy })) W3 → A.heap.size ≤ (W3.putObj (w.heap.size + 1) o).heap.size → Kp A0.heap.size A.heap.size A (W3.putObj (w.heap.size + 1) o) := fun o W3 b hsz => by
     refine ⟨hsz, fun k hkk => ?_⟩
     have hkne : k ≠ w.heap.size + 1 := by have := hkk.1; omega
     exact (World.putObj_heap_other hkne).trans ((b.same k hkk).trans ((World.putObj_heap_other hkne).trans (hkq.same k hkk)))
    rintro e3 a3 W3 ⟨s3, rfl, u⟩
    cases e3 with
    | normal =>
     obtain ⟨b, aj, p, au⟩ := u
     obtain ⟨hr, m, q, i, d⟩ := fin none W3 b
     exact ⟨_, _, hr, .inl ⟨rfl, ⟨hI _ _ _ _ p i, h2, m, q⟩, d, ah _ W3 aj d.size, hNs _ _ _ au i (fun k h => h.1)⟩⟩
    | ret =>
     obtain ⟨b, p⟩ := u
     obtain ⟨hr, m, q, i, d⟩ := fin (some .ret) W3 b
     exact ⟨_, _, hr, .inr ⟨rfl, ⟨.ret, hIx _ _ _ _ _ p i, h2, m, q⟩, d⟩⟩
    | exit id =>
     obtain ⟨b, p⟩ := u
     obtain ⟨hr, m, q, i, d⟩ := fin (some (.exit id)) W3 b
     exact ⟨_, _, hr, .inr ⟨rfl, ⟨.exit id, hIx _ _ _ _ _ p i, h2, m, q⟩, d⟩⟩
    | goto t =>
     obtain ⟨b, p⟩ := u
     obtain ⟨hr, m, q, i, d⟩ := fin (some (.goto t)) W3 b
     exact ⟨_, _, hr, .inr ⟨rfl, ⟨.goto t, hIx _ _ _ _ _ p i, h2, m, q⟩, d⟩⟩
    | panic _ => exact u.elim
    | outgrown => exact u.elim
   | _ => exact ai.elim
end
end Go.FK
end

/- === Wgpa === -/
section
/- Walks, written by my program walk.py out of the specification gpa.py: each theorem says what one function returns and that it leaves memory as it was. -/
namespace Go.Proofs.Ythjgnnfonofgkaa
open Go Go.RowKit Go.FK
set_option maxHeartbeats 4000000
set_option maxRecDepth 100000
theorem el203 : Elem Try.prog 203 66 1 8 := ⟨Try.underlying203, zk, rfl⟩
theorem xS (w : World) :
  Calls Try.prog 71 #[(.pointer none)] w (Ret fun v w' => v = (.bool true) ∧ Below w.heap.size w w') := by
 refine wL 12 Try.func71 rfl ?_
 have a := Below.refl w.heap.size w
 exact wR (zI (nR (zG (zr (.bool true) (zG (zs (zs (zs (zs (zs (xN (zI (nQ (yB (yJ [(.bool true)] ⟨rfl, a⟩)))))))))))))))
theorem qQ (c : Nat)  :
  Iter (α := SpS) Try.prog 72 [.pointer (some ⟨c, 0, none⟩)] (fun x => [.agg #[.int .i32 x.1, .int .i32 x.2.1], S x.2.2]) ([] : List SpS) (fun w => w.heap[c]? = some (.cells [(.pointer none)].toArray 66 (0, 0))) := by
 intro l J Jx w m k o j q
 refine wL 28 Try.func72 rfl ?_
 have h := Below.refl w.heap.size w
 have e : w.heap.size ≤ w.heap.size := Nat.le_refl _
 have a := m
 refine yA (wR (zO 0 a rfl (zc (xS  _ ) ?_)))
 rintro _ i ⟨rfl, b⟩
 have h := h.trans (b.mono e)
 replace e := Nat.le_trans e (b.size)
 refine nQ (zT (yB (zP (yJ [] ?_))))
 have f := k _ h
 obtain ⟨K, g⟩ : ∃ K, K = i.heap.size := ⟨_, rfl⟩
 rw [← g] at f
 have p : K ≤ i.heap.size := by omega
 have n : w.heap.size ≤ K := by omega
 have d : [] = ([] : List SpS) := by rfl
 rw [d] at f
 exact ⟨e, Or.inl ⟨K, f⟩⟩
theorem vD (w : World) :
  Calls Try.prog 38 #[(.pointer none)] w (Ret fun v w' => ∃ (cb0 : Nat), v = (.func (.func 72) #[] #[(pt cb0 0)]) ∧ w'.heap[cb0]? = some (.cells [(.pointer none)].toArray 66 (0, 0)) ∧ w.heap.size ≤ cb0 ∧ Below w.heap.size w w') := by
 refine wL 4 Try.func38 rfl ?_
 have d := Below.refl w.heap.size w
 refine wR (zN [(.pointer none)] 66 ?_)
 intro e f a
 have c := a.ge d.size
 have b := a.here
 have d := d.tr a.below
 exact zI (nR (zr (.func (.func 72) #[] #[(pt e 0)]) (zI (nQ (yB (yJ [(.func (.func 72) #[] #[(pt e 0)])] ⟨e, rfl, b, c, d⟩))))))
theorem c_len_nil (w : World) :
  Calls Try.prog 48 #[(.pointer none)] w (Ret fun v w' => v = (I6 0) ∧ Below w.heap.size w w') := by
 refine wL 10 Try.func48 rfl ?_
 have a := Below.refl w.heap.size w
 refine wR (zI (nW (wR (zG (zc (xS  _ ) ?_)))))
 rintro _ c ⟨rfl, b⟩
 have a := a.tr b
 exact nQ (zT (wR (zI (nQ (yB (zP (yJ [(I6 0)] ⟨rfl, a⟩)))))))
theorem c_size_nil (w : World) :
  Calls Try.prog 36 #[(.pointer none)] w (Ret fun v w' => v = (I6 0) ∧ Below w.heap.size w w') := by
 refine wL 28 Try.func36 rfl ?_
 have a := Below.refl w.heap.size w
 refine wR (zI (nW (wR (zG (zc (xS  _ ) ?_)))))
 rintro _ c ⟨rfl, b⟩
 have a := a.tr b
 exact nQ (zT (wR (zI (nQ (yB (zP (yJ [(I6 0)] ⟨rfl, a⟩)))))))
theorem c_at_nil (x : Int) (w : World) :
  Calls Try.prog 46 #[(.pointer none), (I3 x)] w (Ret fun v w' => v = (.tuple #[(S []), (.bool false)]) ∧ Below w.heap.size w w') := by
 refine wL 50 Try.func46 rfl ?_
 have a := Below.refl w.heap.size w
 refine wR (zI (zI (nR (zI (nW (wR (zG (zc (xS  _ ) ?_))))))))
 rintro _ c ⟨rfl, b⟩
 have a := a.tr b
 exact zG (zs (zs (xN (zG (zs (zs (xN (nQ (zT (wR (zG (zI (zI (nQ (yB (zP (yJ [(S []), (.bool false)] ⟨qP (congrArg S (by first | rfl | omega)) rfl, a⟩)))))))))))))))))
theorem xJ (lo : Int) (hi : Int) (w : World) :
  Calls Try.prog 86 #[(.pointer none), (Value.agg #[(I3 lo), (I3 hi)])] w (Ret fun v w' => v = (.tuple #[(Value.agg #[(I3 0), (I3 0)]), (S []), (.bool false)]) ∧ Below w.heap.size w w') := by
 refine wL 69 Try.func86 rfl ?_
 have d := Below.refl w.heap.size w
 refine wR (zN [(I3 lo), (I3 hi)] 29 ?_)
 intro k m f
 have h := f.ge d.size
 refine zN [(I3 0), (I3 0)] 29 ?_
 intro j l c
 have d := d.tr f.below
 have e := c.ge d.size
 have a := c.here
 refine zI (zI (nR (zI (nW (wR (zG (zc (xS  _ ) ?_)))))))
 rintro _ n ⟨rfl, g⟩
 have a := zA a g
 refine zG (zs (zs (zs (xN (nQ (zT (wR (zr (Value.agg #[(I3 0), (I3 0)]) (zG (qC [(I3 0), (I3 0)] a ?_))))))))))
 intro i b
 have a := b.here
 refine zI (zI (nQ (yB (zP (qI [.cell 4 29, .tmp 5, .tmp 6] [(Value.agg #[(I3 0), (I3 0)]), (S []), (.bool false)] rfl rfl ⟨⟨⟨j, 0, none⟩, zk, wV [(I3 0), (I3 0)] zk zk (wE a)⟩, zk, zk, trivial⟩ ?_)))))
 have d := ((d.tr c.below).tr g).trans (b.below e)
 exact ⟨tup3 rfl (congrArg S (by first | rfl | omega)) rfl, d⟩
theorem c_put_nil (lo : Int) (hi : Int) (val : List UInt8) (w : World) :
  Calls Try.prog 44 #[(.pointer none), (Value.agg #[(I3 lo), (I3 hi)]), (S val)] w (Ret fun v w' => v = (I6 1) ∧ Below w.heap.size w w') := by
 refine wL 29 Try.func44 rfl ?_
 have b := Below.refl w.heap.size w
 refine wR (zN [(I3 lo), (I3 hi)] 29 ?_)
 intro f g a
 have d := a.ge b.size
 refine zI (nW (yC (wR (zG (zc (xS  _ ) ?_)))))
 rintro _ e ⟨rfl, c⟩
 have b := (b.tr a.below).tr c
 exact zI (nQ (zT (wR (zI (nQ (yB (yG (zP (yJ [(I6 1)] ⟨rfl, b⟩)))))))))
theorem c_lay_nil (lo : Int) (hi : Int) (val : List UInt8) (w : World) :
  Calls Try.prog 45 #[(.pointer none), (Value.agg #[(I3 lo), (I3 hi)]), (S val)] w (Ret fun v w' => v = (I6 1) ∧ Below w.heap.size w w') := by
 refine wL 128 Try.func45 rfl ?_
 have b := Below.refl w.heap.size w
 refine wR (zN [(I3 lo), (I3 hi)] 29 ?_)
 intro f g a
 have d := a.ge b.size
 refine zI (nW (yC (wR (zG (zc (xS  _ ) ?_)))))
 rintro _ e ⟨rfl, c⟩
 have b := (b.tr a.below).tr c
 exact zI (nQ (zT (wR (zI (nQ (yB (yG (zP (yJ [(I6 1)] ⟨rfl, b⟩)))))))))
theorem c_cut_nil (lo : Int) (hi : Int) (w : World) :
  Calls Try.prog 87 #[(.pointer none), (Value.agg #[(I3 lo), (I3 hi)])] w (Ret fun v w' => v = (.tuple #[(I6 0), (I6 1)]) ∧ Below w.heap.size w w') := by
 refine wL 111 Try.func87 rfl ?_
 have b := Below.refl w.heap.size w
 refine wR (zN [(I3 lo), (I3 hi)] 29 ?_)
 intro f g a
 have d := a.ge b.size
 refine zI (zI (nW (yC (wR (zG (zc (xS  _ ) ?_))))))
 rintro _ e ⟨rfl, c⟩
 have b := (b.tr a.below).tr c
 exact zI (nQ (zT (wR (zI (zI (nQ (yB (yG (zP (yJ [(I6 0), (I6 1)] ⟨rfl, b⟩))))))))))
theorem c_list_nil (w : World) :
  Calls Try.prog 77 #[(.pointer none)] w (Ret fun v w' => v = (.slice none 0 0) ∧ Below w.heap.size w w') := by
 refine wL 9 Try.func77 rfl ?_
 have a := Below.refl w.heap.size w
 refine wR (zI (nW (wR (zG (zc (xS  _ ) ?_)))))
 rintro _ c ⟨rfl, b⟩
 have a := a.tr b
 exact nQ (zT (wR (zI (nQ (yB (zP (yJ [(.slice none 0 0)] ⟨rfl, a⟩)))))))
theorem it_gaps_S (bx_m aq : Nat) (ao : Value) (xs : List (Int × Int × List UInt8)) (hl : xs.length ≤ 4194304) (hr : RiseG 0 xs) :
  Iter2 (α := Rg) Try.prog 141 [.pointer (some ⟨bx_m, 0, none⟩)] (fun x => [.agg #[.int .i32 x.1, .int .i32 x.2]]) (gapsG xs) (fun w => w.heap[bx_m]? = some (.cells [(pt aq 0)].toArray 66 (0, 0)) ∧ w.heap[aq]? = some (.cells [ao, (.bool true)].toArray 136 (0, 0)) ∧ Rd w encSpanS ao xs) := by
 intro l J Jx w hN h0 bc bi hY
 refine enterM (args := [(.func (.yield l) #[] #[]), (pt bx_m 0)]) Try.func141 rfl (zk : _ = 34) zk ?_
 have hb := Below.refl w.heap.size w
 have m : w.heap.size ≤ w.heap.size := Nat.le_refl _
 obtain ⟨b, a, i⟩ := hN
 have u := i
 refine wR (zN [(.func (.yield l) #[] #[])] 99 ?_)
 intro b1 w2 a6
 have bl := a6.ge m
 have hb := hb.trans (a6.below.mono m)
 replace m := Nat.le_trans m (a6.below.size)
 have g := a6.here
 have b := zA b a6.below
 have a := zA a a6.below
 have i := i.below a6.below
 refine nW (wR (zO 0 b rfl (zc (qO aq ao xs _ a i) ?_)))
 rintro _ w4 ⟨rfl, bd⟩
 have hb := hb.trans (bd.mono m)
 replace m := Nat.le_trans m (bd.size)
 refine nQ (zF (zZ (zB (wR (zN [(I3 0)] 21 ?_)))))
 intro b7 w8 a5
 have az := a5.ge m
 have hb := hb.trans (a5.below.mono m)
 replace m := Nat.le_trans m (a5.below.size)
 have f := a5.here
 refine z1 0 (I3 0) [(I3 0)] f ?_
 intro co au
 replace m := Nat.le_trans m (Nat.le_of_eq au.size.symm)
 have b := zA (zA b bd) a5.below
 have b := zC b au (zH b f zi)
 have a := zA (zA a bd) a5.below
 have a := zC a au (zH a f zi)
 have g := zA (zA g bd) a5.below
 have g := zC g au (zH g f zi)
 have hb := hb.trans (au.below az)
 have i := u.below hb
 have f := au.here
 refine nW (wR (zO 0 b rfl (zc (c_all_S aq ao xs _ a i) ?_)))
 rintro _ r ⟨al, rfl, d, ah, aj⟩
 replace ah := Nat.le_trans m ah
 have hb := hb.trans (aj.mono m)
 replace m := Nat.le_trans m (aj.size)
 refine nQ (yC ?_)
 have b := zA b aj
 have ai : bx_m < r.heap.size := yD b
 have a := zA a aj
 have v : aq < r.heap.size := yD a
 have g := zA g aj
 have ad : b1 < r.heap.size := yD g
 have f := zA f aj
 have ae : b7 < r.heap.size := yD f
 have q : al < r.heap.size := yD d
 have ag := m
 have i := i.below aj
 have am := i
 refine W_rangeN 72 [(pt al 0)] xs zk (fun _ _ => rfl) (it_all_S al aq ao xs zo) ⟨d, a, i⟩ ((fun D A B h hc hd => ⟨zL h.1 hc (fun h => Nat.not_lt.2 (hd _ h) q), zL h.2.1 hc (fun h => Nat.not_lt.2 (hd _ h) v), Rd.ch i (Nat.le_refl _) h.2.2 hc hd⟩)) (by intro x; rfl) (fun K af A => ∃ (nx : Int), (A.heap[bx_m]? = some (.cells [(pt aq 0)].toArray 66 (0, 0))) ∧ (A.heap[aq]? = some (.cells [ao, (.bool true)].toArray 136 (0, 0))) ∧ (A.heap[b1]? = some (.cells [(.func (.yield l) #[] #[])].toArray 99 (0, 0))) ∧ (A.heap[b7]? = some (.cells [(I3 nx)].toArray 21 (0, 0))) ∧ (A.heap[al]? = some (.cells [(pt aq 0)].toArray 66 (0, 0))) ∧ (Rd A encSpanS ao xs) ∧ (r.heap.size < K) ∧ (K ≤ A.heap.size) ∧ (J K (gapsP af) A) ∧ (nx = nextP af)) (fun K c af A => (c = .ret) ∧ (r.heap.size < K) ∧ (∃ gp gx, gp ++ [gx] <+: (gapsG xs) ∧ Jx K (gp ++ [gx]) A)) ?_ ?_ ?_ ?_ ?_ ?_
 ·intro A hA b2
  exact ⟨0, zA b hA, zA a hA, zA g hA, zA f hA, zA d hA, i.below hA, b2, Nat.le_refl _, h0 _ (hb.trans (hA.mono m)), by rfl⟩
 ·rintro K af A B ⟨nx, b, a, g, f, d, i, ak, bt, hJ, r1⟩ hc
  exact ⟨nx, zL b hc (fun h => Nat.not_lt.2 h.1 ai), zL a hc (fun h => Nat.not_lt.2 h.1 v), zL g hc (fun h => Nat.not_lt.2 h.1 ad), zL f hc (fun h => Nat.not_lt.2 h.1 ae), zL d hc (fun h => Nat.not_lt.2 h.1 q), Rd.ch am (Nat.le_refl _) i hc (fun k h => h.1), ak, Nat.le_trans bt hc.size, bc _ _ _ _ hJ (hc.mono (fun k h => ⟨Nat.le_trans ag h.1, h.2⟩)), r1⟩
 ·rintro K c af A B ⟨b9, ak, gp, gx, b8, cb⟩ hc
  exact ⟨b9, ak, gp, gx, b8, bi _ _ _ _ cb (hc.mono (fun k h => ⟨Nat.le_trans ag h.1, h.2⟩))⟩
 ·intro l2 K af x A hi bx ci y be
  obtain ⟨nx, b, a, g, f, d, i, ak, bt, hJ, r1⟩ := hi
  have m : w.heap.size ≤ A.heap.size := by omega
  have bq : w.heap.size ≤ K := by omega
  have t := Kp.refl (r.heap.size) K A
  have a1 : ¬ Iv (r.heap.size) K bx_m := fun h => Nat.not_lt.2 h.1 ai
  have av : ¬ Iv (r.heap.size) K aq := fun h => Nat.not_lt.2 h.1 v
  have bg : ¬ Iv (r.heap.size) K b1 := fun h => Nat.not_lt.2 h.1 ad
  have a3 : ¬ Iv (r.heap.size) K b7 := fun h => Nat.not_lt.2 h.1 ae
  have a0 : ¬ Iv (r.heap.size) K al := fun h => Nat.not_lt.2 h.1 q
  have ba : Iv w.heap.size K b1 := ⟨bl, by have := ad; omega⟩
  have aw : Iv w.heap.size K b7 := ⟨az, by have := ae; omega⟩
  have a2 : Iv w.heap.size K al := ⟨ah, by have := q; omega⟩
  have d := bx.1
  have a := bx.2.1
  have hx := hr.pre be
  have cs := next_le hr be
  refine zW (zN [(I3 0), (I3 0)] 29 ?_)
  intro bj cn n
  have bo := n.ge m
  have bf : ¬ Iv r.heap.size K bj := fun h => by have := h.2; have := n.num; omega
  have j := Ch.refl (Iv w.heap.size K) A
  have ar := y
  have a4 : (World.heap A).size ≤ bj ∨ Iv w.heap.size K bj := .inl (by rw [n.num]; exact j.size)
  replace t := t.ch (Ch.of_below n.below) y (fun _ h => h.elim)
  replace y := Nat.le_trans y (n.below.size)
  replace m := Nat.le_trans m (n.below.size)
  have p := n.here
  refine qC [(I3 x.1), (I3 x.2.1)] p ?_
  intro ck s
  replace t := t.ch (Ch.of_wrote s) y (fun k e h => bf (e ▸ h))
  replace y := Nat.le_trans y (Nat.le_of_eq s.size.symm)
  replace m := Nat.le_trans m (Nat.le_of_eq s.size.symm)
  have b := zA b n.below
  have b := zC b s (zH b p zi)
  have a := zA a n.below
  have a := zC a s (zH a p zi)
  have g := zA g n.below
  have g := zC g s (zH g p zi)
  have f := zA f n.below
  have f := zC f s (zH f p zi)
  have d := zA d n.below
  have d := zC d s (zH d p zi)
  have p := s.here
  refine zR (zB ⟨t, ?_⟩)
  intro b4 o
  replace m := Nat.le_trans m o.size
  replace y := Nat.le_trans y o.size
  replace t := Kp.refl (r.heap.size) K b4
  have f := zL f o a3
  have p := zL p o bf
  refine yC (yA (wR (wB 0 p rfl (zO 0 f rfl (zGt .i32 x.1 nx ?_ ?_)))))
  ·intro cy
   have g := zL g o bg
   refine zG (zw (zO 0 g rfl (zw (zO 0 f rfl (zw (zr (pt bj 0) (zw (zO 0 p rfl (zw (xL x.1 1 (x.1 - 1) rfl zk zk (xD _ zh zh) (zw (zr (Value.agg #[(I3 nx), (I3 (x.1 - 1))]) (zw ?_)))))))))))))
   have an : (gapsP af) ++ [((nx, (x.1 - 1)) : Rg)] <+: (gapsG xs) := by exact gaps_pre hr be r1 zo
   replace j := ((j.trans2 (Ch.of_below n.below) (fun _ h => h.elim)).trans2 (Ch.of_wrote s) (fun k e => e ▸ a4)).trans (o.mono (fun k h => ⟨Nat.le_trans ag h.1, h.2⟩))
   have b := zL b o a1
   have a := zL a o av
   have i := Rd.ch am (Nat.le_refl _) (Rd.ch u (Nat.le_refl _) (i.below n.below) (Ch.of_wrote s) (fun k e => e ▸ bo)) o (fun k h => h.1)
   refine L_yieldR l [(Value.agg #[(I3 nx), (I3 (x.1 - 1))])] zk zk (hY K (gapsP af) ((nx, (x.1 - 1)) : Rg) _ _ hJ j ⟨b, a, i⟩ bq ar an) ?_
   have b0 := t
   rintro e b6 (⟨rfl, br, t, bu, bp⟩ | ⟨rfl, ax, t⟩)
   ·refine ⟨true, rfl, ?_⟩
    have p := (a4.elim (fun h => bu.same _ ⟨h, yD p⟩) (fun h => t.same _ h)).trans p
    clear j ar
    have g := (t.same _ ba).trans g
    have f := (t.same _ aw).trans f
    have d := zL d o a0
    have d := (t.same _ a2).trans d
    replace m := Nat.le_trans m t.size
    replace y := Nat.le_trans y t.size
    replace hJ := br
    obtain ⟨b, a, i⟩ := bp
    refine zw (znt true (xN (nQ (zF (zZ (zB (zW (wB 1 p rfl (xL x.2.1 1 (x.2.1 + 1) rfl zk zk (xD _ zh zh) (z1 0 (I3 (x.2.1 + 1)) [(I3 (x.2.1 + 1))] f ?_))))))))))
    intro cu z
    replace t := b0.trans (t.narrow ag)
    replace t := t.ch (Ch.of_wrote z) y (fun k e h => a3 (e ▸ h))
    have j := Ch.refl (Iv w.heap.size K) b6
    have ar := y
    replace y := Nat.le_trans y (Nat.le_of_eq z.size.symm)
    replace m := Nat.le_trans m (Nat.le_of_eq z.size.symm)
    have b := zC b z (zH b f zi)
    have a := zC a z (zH a f zi)
    have g := zC g z (zH g f zi)
    have d := zC d z (zH d f zi)
    have f := z.here
    refine zR (zS ?_)
    replace j := j.trans2 (Ch.of_wrote z) (fun k e => .inr (e ▸ aw))
    replace hJ := bc _ _ _ _ hJ j
    clear j
    have eJ : ((gapsP af) ++ [((nx, (x.1 - 1)) : Rg)]) = (gapsP (af ++ [x])) := by exact gaps_go r1 zo
    rw [eJ] at hJ
    have i := Rd.ch u (Nat.le_refl _) i (Ch.of_wrote z) (fun k e => e ▸ az)
    exact yU t ⟨d, a, i⟩ ⟨(x.2.1 + 1), b, a, g, f, d, i, ak, y, hJ, (next_snoc af x).symm⟩
   refine ⟨false, rfl, ?_⟩
   clear j ar
   replace m := Nat.le_trans m t.size
   replace y := Nat.le_trans y t.size
   refine zw (znt false (xN (nQ (zT (yB (zP (yG ?_)))))))
   replace t := b0.trans (t.narrow ag)
   refine round_ret t ⟨rfl, ak, _, _, an, ax⟩
  intro cp
  refine zG (zs (zs (zs (zs (zs (zs (zs (zs (zpF (nQ (zF (zZ (zB (zW (wB 1 p rfl (xL x.2.1 1 (x.2.1 + 1) rfl zk zk (xD _ zh zh) (z1 0 (I3 (x.2.1 + 1)) [(I3 (x.2.1 + 1))] f ?_)))))))))))))))))
  intro cw aa
  replace t := t.ch (Ch.of_wrote aa) y (fun k e h => a3 (e ▸ h))
  replace y := Nat.le_trans y (Nat.le_of_eq aa.size.symm)
  replace m := Nat.le_trans m (Nat.le_of_eq aa.size.symm)
  have b := zL b o a1
  have b := zC b aa (zH b f zi)
  have a := zL a o av
  have a := zC a aa (zH a f zi)
  have g := zL g o bg
  have g := zC g aa (zH g f zi)
  have d := zL d o a0
  have d := zC d aa (zH d f zi)
  have f := aa.here
  refine zR (zS ?_)
  replace j := (((j.trans2 (Ch.of_below n.below) (fun _ h => h.elim)).trans2 (Ch.of_wrote s) (fun k e => e ▸ a4)).trans (o.mono (fun k h => ⟨Nat.le_trans ag h.1, h.2⟩))).trans2 (Ch.of_wrote aa) (fun k e => .inr (e ▸ aw))
  replace hJ := bc _ _ _ _ hJ j
  clear j
  have eJ : (gapsP af) = (gapsP (af ++ [x])) := by exact gaps_no r1 zo
  rw [eJ] at hJ
  have i := Rd.ch u (Nat.le_refl _) (Rd.ch am (Nat.le_refl _) (Rd.ch u (Nat.le_refl _) (i.below n.below) (Ch.of_wrote s) (fun k e => e ▸ bo)) o (fun k h => h.1)) (Ch.of_wrote aa) (fun k e => e ▸ az)
  exact yU t ⟨d, a, i⟩ ⟨(x.2.1 + 1), b, a, g, f, d, i, ak, y, hJ, (next_snoc af x).symm⟩
 ·intro K A hi ce ac
  obtain ⟨nx, b, a, g, f, d, i, ak, y, hJ, r1⟩ := hi
  have bq : w.heap.size ≤ K := by omega
  have ba : Iv w.heap.size K b1 := ⟨bl, by have := ad; omega⟩
  have aw : Iv w.heap.size K b7 := ⟨az, by have := ae; omega⟩
  have a2 : Iv w.heap.size K al := ⟨ah, by have := q; omega⟩
  have ab : Iv w.heap.size K (r.heap.size) := ⟨ag, ak⟩
  have m : w.heap.size ≤ A.heap.size := by omega
  refine zS (zB (wR (zO 0 f rfl (zLe .i32 nx 1114111 ?_ ?_))))
  ·intro cm
   refine nQ (zT (zW (zO 0 g rfl (zO 0 f rfl (zr (Value.agg #[(I3 nx), (I3 1114111)]) ?_)))))
   have j := Ch.refl (Iv w.heap.size K) A
   have ar := y
   have an : (gapsP xs) ++ [((nx, 1114111) : Rg)] <+: (gapsG xs) := by exact gaps_last hr r1 zo
   refine L_yieldR l [(Value.agg #[(I3 nx), (I3 1114111)])] zk zk (hY K (gapsP xs) ((nx, 1114111) : Rg) _ _ hJ j ⟨b, a, i⟩ bq ar an) ?_
   rintro e b5 (⟨rfl, br, t, bu, bp⟩ | ⟨rfl, ax, t⟩)
   ·refine ⟨true, rfl, ?_⟩
    clear j ar
    have ac := (t.same _ ab).trans ac
    replace m := Nat.le_trans m t.size
    replace y := Nat.le_trans y t.size
    replace hJ := br
    obtain ⟨b, a, i⟩ := bp
    refine zR (end_normalM (ds := [⟨.collected r.heap.size, #[]⟩]) zk (xC ac ?_))
    intro cl bb
    have j := Ch.refl (Iv w.heap.size K) b5
    have ar := y
    replace y := Nat.le_trans y (Nat.le_of_eq bb.size.symm)
    replace m := Nat.le_trans m (Nat.le_of_eq bb.size.symm)
    refine wW [] [] rfl trivial ?_
    replace j := j.trans2 (Ch.of_wrote bb) (fun k e => .inr (e ▸ ab))
    replace hJ := bc _ _ _ _ hJ j
    clear j
    have a9 : ((gapsP xs) ++ [((nx, 1114111) : Rg)]) = (gapsG xs) := by exact gaps_done r1 zo
    rw [a9] at hJ
    exact ⟨m, Or.inl ⟨K, hJ⟩⟩
   refine ⟨false, rfl, ?_⟩
   clear j ar
   have ac := (t.same _ ab).trans ac
   replace m := Nat.le_trans m t.size
   replace y := Nat.le_trans y t.size
   refine zR (end_normalM (ds := [⟨.collected r.heap.size, #[]⟩]) zk (xC ac ?_))
   intro cr bm
   replace m := Nat.le_trans m (Nat.le_of_eq bm.size.symm)
   refine wW [] [] rfl trivial ?_
   replace ax := bi _ _ _ _ ax ((Ch.of_wrote bm).mono (fun k e => e ▸ ab))
   exact ⟨m, Or.inr ⟨K, _, _, an, ax⟩⟩
  intro cx
  refine nQ (zF (zZ (end_normalM (ds := [⟨.collected r.heap.size, #[]⟩]) zk (xC ac ?_))))
  intro cj bh
  have j := Ch.refl (Iv w.heap.size K) A
  have ar := y
  replace y := Nat.le_trans y (Nat.le_of_eq bh.size.symm)
  replace m := Nat.le_trans m (Nat.le_of_eq bh.size.symm)
  refine wW [] [] rfl trivial ?_
  replace j := j.trans2 (Ch.of_wrote bh) (fun k e => .inr (e ▸ ab))
  replace hJ := bc _ _ _ _ hJ j
  clear j
  have a9 : (gapsP xs) = (gapsG xs) := by exact gaps_none r1 zo
  rw [a9] at hJ
  exact ⟨m, Or.inl ⟨K, hJ⟩⟩
 rintro K c cg x0 A cc ⟨rfl, ak, gp, gx, an, ax⟩ ce ac
 have ab : Iv w.heap.size K (r.heap.size) := ⟨ag, ak⟩
 have m : w.heap.size ≤ A.heap.size := by omega
 refine yB (yG (zP (wC (ds := [⟨.collected r.heap.size, #[]⟩]) zk (xC ac ?_))))
 intro cv bn
 replace m := Nat.le_trans m (Nat.le_of_eq bn.size.symm)
 refine wW [] [] rfl trivial ?_
 replace ax := bi _ _ _ _ ax ((Ch.of_wrote bn).mono (fun k e => e ▸ ab))
 exact ⟨m, Or.inr ⟨K, _, _, an, ax⟩⟩
theorem c_gaps_S (a : Nat) (b : Value) (xs : List (Int × Int × List UInt8)) (w : World) (i : w.heap[a]? = some (.cells [b, (.bool true)].toArray 136 (0, 0))) (h : Rd w encSpanS b xs) :
  Calls Try.prog 123 #[(pt a 0)] w (Ret fun v w' => ∃ (cb0 : Nat), v = (.func (.func 141) #[] #[(pt cb0 0)]) ∧ w'.heap[cb0]? = some (.cells [(pt a 0)].toArray 66 (0, 0)) ∧ w.heap.size ≤ cb0 ∧ Below w.heap.size w w') := by
 refine wL 4 Try.func123 rfl ?_
 have f := Below.refl w.heap.size w
 refine wR (zN [(pt a 0)] 66 ?_)
 intro g j c
 have e := c.ge f.size
 have d := c.here
 have f := f.tr c.below
 exact zI (nR (zr (.func (.func 141) #[] #[(pt g 0)]) (zI (nQ (yB (yJ [(.func (.func 141) #[] #[(pt g 0)])] ⟨g, rfl, d, e, f⟩))))))
theorem it_gaps_nil (e : Nat)  :
  Iter (α := Rg) Try.prog 141 [.pointer (some ⟨e, 0, none⟩)] (fun x => [.agg #[.int .i32 x.1, .int .i32 x.2]]) ([] : List Rg) (fun w => w.heap[e]? = some (.cells [(.pointer none)].toArray 66 (0, 0))) := by
 intro l J Jx w q p r o v
 refine enterM (args := [(.func (.yield l) #[] #[]), (pt e 0)]) Try.func141 rfl (zk : _ = 34) zk ?_
 have h := Below.refl w.heap.size w
 have d : w.heap.size ≤ w.heap.size := Nat.le_refl _
 have a := q
 refine wR (zN [(.func (.yield l) #[] #[])] 99 ?_)
 intro t y c
 have i := c.ge d
 have h := h.trans (c.below.mono d)
 replace d := Nat.le_trans d (c.below.size)
 have b := c.here
 have a := zA a c.below
 refine nW (wR (zO 0 a rfl (zc (xS  _ ) ?_)))
 rintro _ n ⟨rfl, f⟩
 have h := h.trans (f.mono d)
 replace d := Nat.le_trans d (f.size)
 refine nQ (zT (yB (zP (wC (ds := []) zk (wW [] [] rfl trivial ?_)))))
 have k := p _ h
 obtain ⟨K, m⟩ : ∃ K, K = n.heap.size := ⟨_, rfl⟩
 rw [← m] at k
 have u : K ≤ n.heap.size := by omega
 have s : w.heap.size ≤ K := by omega
 have b := zA b f
 have j : Iv w.heap.size K t := ⟨i, by have := yD b; omega⟩
 have g : [] = ([] : List Rg) := by rfl
 rw [g] at k
 exact ⟨d, Or.inl ⟨K, k⟩⟩
theorem c_gaps_nil (w : World) :
  Calls Try.prog 123 #[(.pointer none)] w (Ret fun v w' => ∃ (cb0 : Nat), v = (.func (.func 141) #[] #[(pt cb0 0)]) ∧ w'.heap[cb0]? = some (.cells [(.pointer none)].toArray 66 (0, 0)) ∧ w.heap.size ≤ cb0 ∧ Below w.heap.size w w') := by
 refine wL 4 Try.func123 rfl ?_
 have d := Below.refl w.heap.size w
 refine wR (zN [(.pointer none)] 66 ?_)
 intro e f a
 have c := a.ge d.size
 have b := a.here
 have d := d.tr a.below
 exact zI (nR (zr (.func (.func 141) #[] #[(pt e 0)]) (zI (nQ (yB (yJ [(.func (.func 141) #[] #[(pt e 0)])] ⟨e, rfl, b, c, d⟩))))))
theorem c_copy_nil (w : World) :
  Calls Try.prog 116 #[(.pointer none)] w (Ret fun v w' => v = (.pointer none) ∧ Below w.heap.size w w') := by
 refine wL 12 Try.func116 rfl ?_
 have a := Below.refl w.heap.size w
 refine wR (zI (nW (wR (zG (zc (xS  _ ) ?_)))))
 rintro _ c ⟨rfl, b⟩
 have a := a.tr b
 exact nQ (zT (wR (zI (nQ (yB (zP (yJ [(.pointer none)] ⟨rfl, a⟩)))))))
theorem c_copy_S (e : Nat) (d : Value) (xs : List (Int × Int × List UInt8)) (w : World) (g : w.heap[e]? = some (.cells [d, (.bool true)].toArray 136 (0, 0))) (b : Rd w encSpanS d xs) (hl : xs.length ≤ 4194304) :
  Calls Try.prog 116 #[(pt e 0)] w (Ret fun v w' => ∃ (q0 : Value) (cb0 : Nat), v = (pt cb0 0) ∧ Row w' w.heap.size 138 3 encSpanS q0 xs ∧ w'.heap[cb0]? = some (.cells [q0, (.bool true)].toArray 136 (0, 0)) ∧ w.heap.size ≤ cb0 ∧ Below w.heap.size w w') := by
 refine wL 12 Try.func116 rfl ?_
 have f := Below.refl w.heap.size w
 refine wR (zI (nW (wR (zG (zc (qO e d xs _ g b) ?_)))))
 rintro _ o ⟨rfl, j⟩
 have g := zA g j
 have b := b.below j
 refine nQ (zF (zZ (zB (wR (zG (zr (pt e 0) (wB 0 g rfl (zc (c_clone_S d xs _ b zo) ?_))))))))
 rintro k r ⟨_, rfl, a, l⟩
 have f := f.tr j
 have a := a.base f.size
 refine L_run (Value.agg #[k, (.bool true)]) (by obtain ⟨p, s, n⟩ := a.rd.len; subst n; kernel_rfl) zk (zN [k, (.bool true)] 136 ?_)
 intro m q c
 have f := f.tr l
 have h := c.ge f.size
 have i := c.here
 have f := f.tr c.below
 have a := a.below c.below
 exact zI (nQ (yB (yJ [(pt m 0)] ⟨k, m, rfl, a, i, h, f⟩)))
theorem c_same_S (j : Nat) (c : Value) (xs : List (Int × Int × List UInt8)) (h : Nat) (d : Value) (ys : List (Int × Int × List UInt8)) (w : World) (l : w.heap[j]? = some (.cells [c, (.bool true)].toArray 136 (0, 0))) (b : Rd w encSpanS c xs) (i : w.heap[h]? = some (.cells [d, (.bool true)].toArray 136 (0, 0))) (a : Rd w encSpanS d ys) (hx : xs.length ≤ 4194304) (hy : ys.length ≤ 4194304) :
  Calls Try.prog 40 #[(pt j 0), (pt h 0)] w (Ret fun v w' => v = (.bool (decide (xs = ys))) ∧ Below w.heap.size w w') := by
 refine wL 10 Try.func40 rfl ?_
 have k := Below.refl w.heap.size w
 refine wR (zI (nR (zG (zc (c_list_S j c xs _ l b) ?_))))
 rintro n s ⟨o, e⟩
 subst n
 have i := zA i e
 have a := a.below e
 refine zG (zc (c_list_S h d ys _ i a) ?_)
 rintro m u ⟨p, f⟩
 subst m
 have b := (b.below e).below f
 have a := a.below f
 refine zc (c_equal_S c xs d ys _ b a (by first | omega | (simp; done)) (by first | omega | (simp; done))) ?_
 rintro _ t ⟨rfl, g⟩
 refine xX (decide (xs = ys)) ?_ ?_
 ·intro q
  have k := ((k.tr e).tr f).tr g
  exact zI (nQ (yB (yJ [(.bool true)] ⟨eb (by exact Eq.symm za), k⟩)))
 intro r
 have k := ((k.tr e).tr f).tr g
 exact zI (nQ (yB (yJ [(.bool false)] ⟨eb (by exact Eq.symm za), k⟩)))
theorem c_same_nl (e : Nat) (b : Value) (ys : List (Int × Int × List UInt8)) (w : World) (f : w.heap[e]? = some (.cells [b, (.bool true)].toArray 136 (0, 0))) (a : Rd w encSpanS b ys) (hy : ys.length ≤ 4194304) :
  Calls Try.prog 40 #[(.pointer none), (pt e 0)] w (Ret fun v w' => v = (.bool (decide (([] : List SpS) = ys))) ∧ Below w.heap.size w w') := by
 refine wL 10 Try.func40 rfl ?_
 have g := Below.refl w.heap.size w
 refine wR (zI (nR (zG (zc (c_list_nil  _ ) ?_))))
 rintro _ o ⟨rfl, c⟩
 have f := zA f c
 have a := a.below c
 refine zG (zc (c_list_S e b ys _ f a) ?_)
 rintro i m ⟨j, d⟩
 subst i
 have a := a.below d
 refine zc (c_equal_S (.slice none 0 0) [] b ys _ (Rd.nil _ _) a (by first | omega | (simp; done)) (by first | omega | (simp; done))) ?_
 rintro _ n ⟨rfl, h⟩
 refine xX (decide ([] = ys)) ?_ ?_
 ·intro k
  have g := ((g.tr c).tr d).tr h
  exact zI (nQ (yB (yJ [(.bool true)] ⟨eb (by exact Eq.symm za), g⟩)))
 intro l
 have g := ((g.tr c).tr d).tr h
 exact zI (nQ (yB (yJ [(.bool false)] ⟨eb (by exact Eq.symm za), g⟩)))
theorem c_same_ln (d : Nat) (b : Value) (xs : List (Int × Int × List UInt8)) (w : World) (i : w.heap[d]? = some (.cells [b, (.bool true)].toArray 136 (0, 0))) (a : Rd w encSpanS b xs) (hx : xs.length ≤ 4194304) :
  Calls Try.prog 40 #[(pt d 0), (.pointer none)] w (Ret fun v w' => v = (.bool (decide (xs = ([] : List SpS)))) ∧ Below w.heap.size w w') := by
 refine wL 10 Try.func40 rfl ?_
 have f := Below.refl w.heap.size w
 refine wR (zI (nR (zG (zc (c_list_S d b xs _ i a) ?_))))
 rintro h n ⟨j, c⟩
 subst h
 refine zG (zc (c_list_nil  _ ) ?_)
 rintro _ o ⟨rfl, e⟩
 have a := (a.below c).below e
 refine zc (c_equal_S b xs (.slice none 0 0) [] _ a (Rd.nil _ _) (by first | omega | (simp; done)) (by first | omega | (simp; done))) ?_
 rintro _ m ⟨rfl, g⟩
 refine xX (decide (xs = [])) ?_ ?_
 ·intro k
  have f := ((f.tr c).tr e).tr g
  exact zI (nQ (yB (yJ [(.bool true)] ⟨eb (by exact Eq.symm za), f⟩)))
 intro l
 have f := ((f.tr c).tr e).tr g
 exact zI (nQ (yB (yJ [(.bool false)] ⟨eb (by exact Eq.symm za), f⟩)))
theorem c_same_nn (w : World) :
  Calls Try.prog 40 #[(.pointer none), (.pointer none)] w (Ret fun v w' => v = (.bool (decide (([] : List SpS) = []))) ∧ Below w.heap.size w w') := by
 refine wL 10 Try.func40 rfl ?_
 have a := Below.refl w.heap.size w
 refine wR (zI (nR (zG (zc (c_list_nil  _ ) ?_))))
 rintro _ h ⟨rfl, c⟩
 refine zG (zc (c_list_nil  _ ) ?_)
 rintro _ g ⟨rfl, b⟩
 refine zc (c_equal_S (.slice none 0 0) [] (.slice none 0 0) [] _ (Rd.nil _ _) (Rd.nil _ _) (by first | omega | (simp; done)) (by first | omega | (simp; done))) ?_
 rintro _ i ⟨rfl, d⟩
 refine xX (decide ([] = [])) ?_ ?_
 ·intro e
  have a := ((a.tr c).tr b).tr d
  exact zI (nQ (yB (yJ [(.bool true)] ⟨eb (by rfl), a⟩)))
 intro f
 have a := ((a.tr c).tr b).tr d
 exact zI (nQ (yB (yJ [(.bool false)] ⟨eb (by exact Eq.symm za), a⟩)))
theorem c_over_S (t : Nat) (bf : Value) (xs : List (Int × Int × List UInt8)) (r : Nat) (bg : Value) (ys : List (Int × Int × List UInt8)) (w : World) (i : w.heap[t]? = some (.cells [bf, (.bool true)].toArray 136 (0, 0))) (ap : Rd w encSpanS bf xs) (b : w.heap[r]? = some (.cells [bg, (.bool true)].toArray 136 (0, 0))) (ax : Rd w encSpanS bg ys) (hrx : RiseG 0 xs) (hry : RiseG 0 ys) :
  Calls Try.prog 117 #[(pt t 0), (pt r 0)] w (Ret fun v w' => ∃ (q0 : Value) (cb0 : Nat), v = (pt cb0 0) ∧ Row w' w.heap.size 138 3 encSpanS q0 (overF eqS xs ys) ∧ w'.heap[cb0]? = some (.cells [q0, (.bool true)].toArray 136 (0, 0)) ∧ w.heap.size ≤ cb0 ∧ Below w.heap.size w w') := by
 refine enterM (args := [(pt t 0), (pt r 0)]) Try.func117 rfl (zk : _ = 29) zk ?_
 have hb := Below.refl w.heap.size w
 have au := ap
 have aq := ax
 have c4 := hrx.len
 have cx := hry.len
 refine wR (zI (nR (zc (qZ  _ ) ?_)))
 rintro _ w1 ⟨aj, rfl, d, ag, ce⟩
 have a0 := NE_ge (yD i) ag
 have av := NE_ge (yD b) ag
 replace ag := Nat.le_trans hb.size ag
 refine zN [(.pointer none)] 66 ?_
 intro b5 w6 bw
 have hb := hb.tr ce
 have ct := bw.ge hb.size
 have n := bw.here
 refine z1 0 (pt aj 0) [(pt aj 0)] n ?_
 intro w8 b7
 have i := zA (zA i ce) bw.below
 have i := zC i b7 (zH i n zi)
 have b := zA (zA b ce) bw.below
 have b := zC b b7 (zH b n zi)
 have d := zA d bw.below
 have d := zC d b7 (zH d n zi)
 have n := b7.here
 refine nW (wR (zG (zG (zM 2 [(pt t 0), (pt r 0)] 66 ?_))))
 intro b9 c2 a6
 have hb := (hb.tr bw.below).trans (b7.below ct)
 have cb := a6.ge hb.size
 have j : Row c2 w.heap.size 66 1 encPtr (.slice (some ⟨b9, 0, none⟩) 2 2) ([some t, some r] : List (Option Nat)) := Row.made ([some t, some r] : List (Option Nat)) a6 cb rfl rfl (by first | decide | (simp; done))
 refine vI Try.underlying203 (j.rd).len (zG (nQ (yC (W_unroll 2 (wR (zr (.bool true) (nW (zT (zZ (zB (yA (yC (wR ?_)))))))))))))
 have cw : ([some t, some r] : List (Option Nat))[0]? = some (some t) := rfl
 have hb := hb.tr a6.below
 have i := zA i a6.below
 have ap := au.below hb
 refine zE1 j.rd el203 0 cw rfl fun _ => (zI (nR (zG (zc (c_all_S t bf xs _ i ap) ?_))))
 rintro _ ad ⟨a1, rfl, f, bl, be⟩
 have bu := Row.nb_ge j bl
 replace bl := Nat.le_trans hb.size bl
 refine nQ (yC ?_)
 have i := zA i be
 have az : t < ad.heap.size := yD i
 have b := zA (zA b a6.below) be
 have a9 : r < ad.heap.size := yD b
 have d := zA (zA d a6.below) be
 have bb : aj < ad.heap.size := yD d
 have n := zA (zA n a6.below) be
 have bo : b5 < ad.heap.size := yD n
 have am : a1 < ad.heap.size := yD f
 have hb := hb.tr be
 have b2 := hb.size
 have c7 := hb
 have ap := au.below hb
 refine wQ 72 [(pt a1 0)] xs zk (fun _ _ => rfl) (it_all_S a1 t bf xs (by first | omega | (simp; done))) ⟨f, i, ap⟩ ((fun D A B h hc hd => ⟨zL h.1 hc (fun h => Nat.not_lt.2 (hd _ h) am), zL h.2.1 hc (fun h => Nat.not_lt.2 (hd _ h) az), Rd.ch ap (Nat.le_refl _) h.2.2 hc hd⟩)) (by intro x; rfl) (fun K bk A => ∃ (m : List SpS) (o : Value), (A.heap[t]? = some (.cells [bf, (.bool true)].toArray 136 (0, 0))) ∧ (A.heap[r]? = some (.cells [bg, (.bool true)].toArray 136 (0, 0))) ∧ (A.heap[aj]? = some (.cells [o, (.bool true)].toArray 136 (0, 0))) ∧ (A.heap[b5]? = some (.cells [(pt aj 0)].toArray 66 (0, 0))) ∧ (A.heap[a1]? = some (.cells [(pt t 0)].toArray 66 (0, 0))) ∧ (Row A w.heap.size 66 1 encPtr (.slice (some ⟨b9, 0, none⟩) 2 2) ([some t, some r] : List (Option Nat))) ∧ (∀ g, Value.ownBlock (.slice (some ⟨b9, 0, none⟩) 2 2) = some g → ¬ Iv ad.heap.size K g) ∧ (Row A w.heap.size 138 3 encSpanS o m) ∧ (∀ g, Value.ownBlock o = some g → ¬ Iv ad.heap.size K g) ∧ (Below w.heap.size w A) ∧ (m = layAll eqS [] bk) ∧ (RiseG 0 m)) (fun K c bk A => False) ?_ ?_ ?_ ?_ ?_ ?_
 ·intro A hA
  have j := j.below be
  exact ⟨[], (.slice none 0 0), zA i hA, zA b hA, zA d hA, zA n hA, zA f hA, j.below hA, qE j _, Row.nil _ _ _ _ _, nr_nil _ _, hb.trans (hA.mono hb.size), by rfl, by trivial⟩
 ·rintro K bk A B ⟨m, o, i, b, d, n, f, j, s, a, p, hb, r1, r2⟩ hc
  exact ⟨m, o, zL i hc (fun h => Nat.not_lt.2 h.1 az), zL b hc (fun h => Nat.not_lt.2 h.1 a9), zL d hc (fun h => Nat.not_lt.2 h.1 bb), zL n hc (fun h => Nat.not_lt.2 h.1 bo), zL f hc (fun h => Nat.not_lt.2 h.1 am), j.ch hc s, s, a.ch hc p, p, hc.below hb hb.size (fun k h => Nat.le_trans b2 h.1), r1, r2⟩
 ·intro K c _ A B h hc; exact h.elim
 ·intro l K bk x A hi hN cz hK b1
  obtain ⟨m, o, i, b, d, n, f, j, s, a, p, hb, r1, r2⟩ := hi
  have hk := Kp.refl (ad.heap.size) K A
  have bi : ¬ Iv (ad.heap.size) K t := fun h => Nat.not_lt.2 h.1 az
  have a4 : ¬ Iv (ad.heap.size) K r := fun h => Nat.not_lt.2 h.1 a9
  have aw : ¬ Iv (ad.heap.size) K aj := fun h => Nat.not_lt.2 h.1 bb
  have bq : ¬ Iv (ad.heap.size) K b5 := fun h => Nat.not_lt.2 h.1 bo
  have a7 : ¬ Iv (ad.heap.size) K a1 := fun h => Nat.not_lt.2 h.1 am
  have ap := au.below hb
  have f := hN.1
  have i := hN.2.1
  have hx := hrx.pre b1
  refine wR (zN [(I3 0), (I3 0)] 29 ?_)
  intro c0 de ae
  have b0 := ae.ge hb.size
  have ba : ¬ Iv ad.heap.size K c0 := fun h => by have := h.2; have := ae.num; omega
  replace hk := hk.ch (Ch.of_below ae.below) hK (fun _ h => h.elim)
  replace hK := Nat.le_trans hK (ae.below.size)
  have u := ae.here
  refine qC [(I3 x.1), (I3 x.2.1)] u ?_
  intro c9 ai
  replace hk := hk.ch (Ch.of_wrote ai) hK (fun k e h => ba (e ▸ h))
  replace hK := Nat.le_trans hK (Nat.le_of_eq ai.size.symm)
  have i := zA i ae.below
  have i := zC i ai (zH i u zi)
  have b := zA b ae.below
  have b := zC b ai (zH b u zi)
  have d := zA d ae.below
  have d := zC d ai (zH d u zi)
  have n := zA n ae.below
  have n := zC n ai (zH n u zi)
  have f := zA f ae.below
  have f := zC f ai (zH f u zi)
  have j := j.below ae.below
  have j := j.wrote ai (j.ne u zi)
  have a := a.below ae.below
  have a := a.wrote ai (a.ne u zi)
  have u := ai.here
  refine nQ (zW (zI (zR (zB ⟨hk, ?_⟩))))
  intro c1 ak
  have hb := (hb.tr ae.below).trans (ai.below b0)
  have hb := ak.below hb hb.size (fun k h => Nat.le_trans b2 h.1)
  replace hK := Nat.le_trans hK ak.size
  replace hk := Kp.refl (ad.heap.size) K c1
  have d := zL d ak aw
  have n := zL n ak bq
  have u := zL u ak ba
  have a := a.ch ak p
  refine yC (zW (zO 0 n rfl (wG u (zG (zc (qY aj o m x.1 x.2.1 x.2.2 w.heap.size _ hb.size d ag a (by first | exact s2 | exact r2 | trivial) (by first | omega | (simp; done)) (by first | omega | (simp; done))) ?_)))))
  rintro _ dd ⟨cl, rfl, co, ci, cp, a2⟩
  have b3 : ∀ k, Dm aj o k → ¬ Iv (ad.heap.size) K k := fun k e => e.elim (fun x => by rw [x]; exact aw) (fun x => p k x)
  have bs : ∀ g, Value.ownBlock cl = some g → ¬ Iv (ad.heap.size) K g := fun g hg => (cp g hg).elim (fun x y => by have := y.2; omega) (fun e => b3 g e)
  replace hk := hk.ch a2 hK b3
  replace hK := Nat.le_trans hK a2.size
  have hb := a2.below hb hb.size (fun k e => e.elim (fun x => x ▸ ag) (fun x => (World.ownsRow.lt a k x).1))
  have i := zL i ak bi
  have i := yH i a2 a0 (a.ne i zi)
  have b := zL b ak a4
  have b := yH b a2 av (a.ne b zi)
  have n := yH n a2 (zH n d zi) (a.ne n zi)
  have f := zL f ak a7
  have f := yH f a2 (zH f d zi) (a.ne f zi)
  have j := j.ch ak s
  have j := j.ch_mut a2 (j.ne d zi) (j.apart a zk)
  have d := co
  refine zR (zS ?_)
  have ap := au.below hb
  refine yU hk ⟨f, i, ap⟩ ⟨(layF eqS m x.1 x.2.1 x.2.2), cl, i, b, d, n, f, j, s, ci, bs, hb, ?_, ?_⟩
  ·rw [r1]; exact (wY _ _ _).symm
  exact wU r2
 ·intro K A hi c5 z
  obtain ⟨m, o, i, b, d, n, f, j, s, a, p, hb, r1, r2⟩ := hi
  have ax := aq.below hb
  refine zS (zS (zB (zW (vG 0 1 (zG (zR (xQ (wR (zr (.bool true) (nW (zT (zZ (zB (yA (yC (wR ?_))))))))))))))))
  have cq : ([some t, some r] : List (Option Nat))[1]? = some (some r) := rfl
  refine zE1 j.rd el203 1 cq rfl fun _ => (zI (nR (zG (zc (c_all_S r bg ys _ b ax) ?_))))
  rintro _ ab ⟨bn, rfl, q, bj, ar⟩
  have bx := Row.nb_ge j bj
  replace bj := Nat.le_trans hb.size bj
  refine nQ (yC ?_)
  have i := zA i ar
  have bc : t < ab.heap.size := yD i
  have b := zA b ar
  have ao : r < ab.heap.size := yD b
  have d := zA d ar
  have bd : aj < ab.heap.size := yD d
  have n := zA n ar
  have bp : b5 < ab.heap.size := yD n
  have f := zA f ar
  have a5 : a1 < ab.heap.size := yD f
  have z := zA z ar
  have a3 : ad.heap.size < ab.heap.size := yD z
  have an : bn < ab.heap.size := yD q
  have hb := hb.tr ar
  have bz := hb.size
  have c6 := hb
  have ax := aq.below hb
  refine wQ 72 [(pt bn 0)] ys zk (fun _ _ => rfl) (it_all_S bn r bg ys (by first | omega | (simp; done))) ⟨q, b, ax⟩ ((fun D A B h hc hd => ⟨zL h.1 hc (fun h => Nat.not_lt.2 (hd _ h) an), zL h.2.1 hc (fun h => Nat.not_lt.2 (hd _ h) ao), Rd.ch ax (Nat.le_refl _) h.2.2 hc hd⟩)) (by intro x; rfl) (fun K bk A => ∃ (mm : List SpS) (o : Value), (A.heap[t]? = some (.cells [bf, (.bool true)].toArray 136 (0, 0))) ∧ (A.heap[r]? = some (.cells [bg, (.bool true)].toArray 136 (0, 0))) ∧ (A.heap[aj]? = some (.cells [o, (.bool true)].toArray 136 (0, 0))) ∧ (A.heap[b5]? = some (.cells [(pt aj 0)].toArray 66 (0, 0))) ∧ (A.heap[a1]? = some (.cells [(pt t 0)].toArray 66 (0, 0))) ∧ (A.heap[ad.heap.size]? = some (.deferred (some []))) ∧ (A.heap[bn]? = some (.cells [(pt r 0)].toArray 66 (0, 0))) ∧ (Row A w.heap.size 66 1 encPtr (.slice (some ⟨b9, 0, none⟩) 2 2) ([some t, some r] : List (Option Nat))) ∧ (∀ g, Value.ownBlock (.slice (some ⟨b9, 0, none⟩) 2 2) = some g → ¬ Iv ab.heap.size K g) ∧ (Row A w.heap.size 138 3 encSpanS o mm) ∧ (∀ g, Value.ownBlock o = some g → ¬ Iv ab.heap.size K g) ∧ (Below w.heap.size w A) ∧ (mm = layAll eqS (layAll eqS [] xs) bk) ∧ (RiseG 0 mm)) (fun K c bk A => False) ?_ ?_ ?_ ?_ ?_ ?_
  ·intro A hA
   have j := j.below ar
   have a := a.below ar
   exact ⟨m, o, zA i hA, zA b hA, zA d hA, zA n hA, zA f hA, zA z hA, zA q hA, j.below hA, qE j _, a.below hA, qE a _, hb.trans (hA.mono hb.size), by exact r1, by exact r2⟩
  ·rintro K bk A B ⟨mm, o, i, b, d, n, f, z, q, j, s, a, p, hb, s1, s2⟩ hc
   exact ⟨mm, o, zL i hc (fun h => Nat.not_lt.2 h.1 bc), zL b hc (fun h => Nat.not_lt.2 h.1 ao), zL d hc (fun h => Nat.not_lt.2 h.1 bd), zL n hc (fun h => Nat.not_lt.2 h.1 bp), zL f hc (fun h => Nat.not_lt.2 h.1 a5), zL z hc (fun h => Nat.not_lt.2 h.1 a3), zL q hc (fun h => Nat.not_lt.2 h.1 an), j.ch hc s, s, a.ch hc p, p, hc.below hb hb.size (fun k h => Nat.le_trans bz h.1), s1, s2⟩
  ·intro K c _ A B h hc; exact h.elim
  ·intro l K bk x A hi hN cz hK b1
   obtain ⟨mm, o, i, b, d, n, f, z, q, j, s, a, p, hb, s1, s2⟩ := hi
   have hk := Kp.refl (ab.heap.size) K A
   have bi : ¬ Iv (ab.heap.size) K t := fun h => Nat.not_lt.2 h.1 bc
   have a4 : ¬ Iv (ab.heap.size) K r := fun h => Nat.not_lt.2 h.1 ao
   have aw : ¬ Iv (ab.heap.size) K aj := fun h => Nat.not_lt.2 h.1 bd
   have bq : ¬ Iv (ab.heap.size) K b5 := fun h => Nat.not_lt.2 h.1 bp
   have a7 : ¬ Iv (ab.heap.size) K a1 := fun h => Nat.not_lt.2 h.1 a5
   have cd : ¬ Iv (ab.heap.size) K ad.heap.size := fun h => Nat.not_lt.2 h.1 a3
   have b8 : ¬ Iv (ab.heap.size) K bn := fun h => Nat.not_lt.2 h.1 an
   have ax := aq.below hb
   have q := hN.1
   have b := hN.2.1
   have hx := hry.pre b1
   refine wR (zN [(I3 0), (I3 0)] 29 ?_)
   intro c3 dg ac
   have b0 := ac.ge hb.size
   have ba : ¬ Iv ab.heap.size K c3 := fun h => by have := h.2; have := ac.num; omega
   replace hk := hk.ch (Ch.of_below ac.below) hK (fun _ h => h.elim)
   replace hK := Nat.le_trans hK (ac.below.size)
   have u := ac.here
   refine qC [(I3 x.1), (I3 x.2.1)] u ?_
   intro da af
   replace hk := hk.ch (Ch.of_wrote af) hK (fun k e h => ba (e ▸ h))
   replace hK := Nat.le_trans hK (Nat.le_of_eq af.size.symm)
   have i := zA i ac.below
   have i := zC i af (zH i u zi)
   have b := zA b ac.below
   have b := zC b af (zH b u zi)
   have d := zA d ac.below
   have d := zC d af (zH d u zi)
   have n := zA n ac.below
   have n := zC n af (zH n u zi)
   have f := zA f ac.below
   have f := zC f af (zH f u zi)
   have z := zA z ac.below
   have z := zC z af (zH z u zi)
   have q := zA q ac.below
   have q := zC q af (zH q u zi)
   have j := j.below ac.below
   have j := j.wrote af (j.ne u zi)
   have a := a.below ac.below
   have a := a.wrote af (a.ne u zi)
   have u := af.here
   refine nQ (zW (zI (zR (zB ⟨hk, ?_⟩))))
   intro cy ah
   have hb := (hb.tr ac.below).trans (af.below b0)
   have hb := ah.below hb hb.size (fun k h => Nat.le_trans bz h.1)
   replace hK := Nat.le_trans hK ah.size
   replace hk := Kp.refl (ab.heap.size) K cy
   have d := zL d ah aw
   have n := zL n ah bq
   have u := zL u ah ba
   have a := a.ch ah p
   refine yC (zW (zO 0 n rfl (wG u (zG (zc (qY aj o mm x.1 x.2.1 x.2.2 w.heap.size _ hb.size d ag a (by first | exact s2 | exact r2 | trivial) (by first | omega | (simp; done)) (by first | omega | (simp; done))) ?_)))))
   rintro _ df ⟨cm, rfl, cr, cc, cu, al⟩
   have b3 : ∀ k, Dm aj o k → ¬ Iv (ab.heap.size) K k := fun k e => e.elim (fun x => by rw [x]; exact aw) (fun x => p k x)
   have bv : ∀ g, Value.ownBlock cm = some g → ¬ Iv (ab.heap.size) K g := fun g hg => (cu g hg).elim (fun x y => by have := y.2; omega) (fun e => b3 g e)
   replace hk := hk.ch al hK b3
   replace hK := Nat.le_trans hK al.size
   have hb := al.below hb hb.size (fun k e => e.elim (fun x => x ▸ ag) (fun x => (World.ownsRow.lt a k x).1))
   have i := zL i ah bi
   have i := yH i al a0 (a.ne i zi)
   have b := zL b ah a4
   have b := yH b al av (a.ne b zi)
   have n := yH n al (zH n d zi) (a.ne n zi)
   have f := zL f ah a7
   have f := yH f al (zH f d zi) (a.ne f zi)
   have z := zL z ah cd
   have z := yH z al (zH z d zi) (a.ne z zi)
   have q := zL q ah b8
   have q := yH q al (zH q d zi) (a.ne q zi)
   have j := j.ch ah s
   have j := j.ch_mut al (j.ne d zi) (j.apart a zk)
   have d := cr
   refine zR (zS ?_)
   have ax := aq.below hb
   refine yU hk ⟨q, b, ax⟩ ⟨(layF eqS mm x.1 x.2.1 x.2.2), cm, i, b, d, n, f, z, q, j, s, cc, bv, hb, ?_, ?_⟩
   ·rw [s1]; exact (wY _ _ _).symm
   exact wU s2
  ·intro K A hi c5 b4
   obtain ⟨mm, o, i, b, d, n, f, z, q, j, s, a, p, hb, s1, s2⟩ := hi
   have bt : NE ad.heap.size (ab.heap.size) := Nat.ne_of_lt a3
   refine zS (zS (zB (zW (vG 1 1 (zG (zR (xQ (wR (zr (.bool false) (nW (zF (yZ (yE (yE (yP (zB (wR (zO 0 n rfl (zI (nQ (yB (wC (ds := [⟨.collected ab.heap.size, #[]⟩, ⟨.collected ad.heap.size, #[]⟩]) zk (xC b4 ?_)))))))))))))))))))))))
   intro db br
   have d := zC d br (zH d b4 zi)
   have a := a.wrote br (a.ne b4 zi)
   have z := zC z br bt
   refine xC z ?_
   intro dc b6
   have d := zC d b6 (zH d z zi)
   have a := a.wrote b6 (a.ne z zi)
   refine wW [.tmp 4] [(pt aj 0)] rfl ⟨zk, trivial⟩ ?_
   have hb := (hb.trans (br.below bz)).trans (b6.below b2)
   exact ⟨o, aj, rfl, a.cast (by first | exact s1 | rfl), d, ag, hb⟩
  intro K c _ x A _ h; exact h.elim
 intro K c _ x A _ h; exact h.elim
theorem c_over_nl_S (q : Nat) (a7 : Value) (ys : List (Int × Int × List UInt8)) (w : World) (b : w.heap[q]? = some (.cells [a7, (.bool true)].toArray 136 (0, 0))) (aq : Rd w encSpanS a7 ys) (hry : RiseG 0 ys) :
  Calls Try.prog 117 #[(.pointer none), (pt q 0)] w (Ret fun v w' => ∃ (q0 : Value) (cb0 : Nat), v = (pt cb0 0) ∧ Row w' w.heap.size 138 3 encSpanS q0 (overF eqS ([] : List SpS) ys) ∧ w'.heap[cb0]? = some (.cells [q0, (.bool true)].toArray 136 (0, 0)) ∧ w.heap.size ≤ cb0 ∧ Below w.heap.size w w') := by
 refine enterM (args := [(.pointer none), (pt q 0)]) Try.func117 rfl (zk : _ = 29) zk ?_
 have u := Below.refl w.heap.size w
 have al := aq
 have cp : RiseG 0 ([] : List SpS) := trivial
 have co := hry.len
 refine wR (zI (nR (zc (qZ  _ ) ?_)))
 rintro _ w1 ⟨ag, rfl, d, ae, cd⟩
 have an := NE_ge (yD b) ae
 replace ae := Nat.le_trans u.size ae
 refine zN [(.pointer none)] 66 ?_
 intro b5 w6 bs
 have u := u.tr cd
 have cj := bs.ge u.size
 have j := bs.here
 refine z1 0 (pt ag 0) [(pt ag 0)] j ?_
 intro w8 b0
 have b := zA (zA b cd) bs.below
 have b := zC b b0 (zH b j zi)
 have d := zA d bs.below
 have d := zC d b0 (zH d j zi)
 have j := b0.here
 refine nW (wR (zG (zG (zM 2 [(.pointer none), (pt q 0)] 66 ?_))))
 intro bx cu a5
 have u := (u.tr bs.below).trans (b0.below cj)
 have b1 := a5.ge u.size
 have i : Row cu w.heap.size 66 1 encPtr (.slice (some ⟨bx, 0, none⟩) 2 2) ([none, some q] : List (Option Nat)) := Row.made ([none, some q] : List (Option Nat)) a5 b1 rfl rfl (by first | decide | (simp; done))
 refine vI Try.underlying203 (i.rd).len (zG (nQ (yC (W_unroll 2 (wR (zr (.bool true) (nW (zT (zZ (zB (yA (yC (wR ?_)))))))))))))
 have cm : ([none, some q] : List (Option Nat))[0]? = some (none) := rfl
 refine zE1 i.rd el203 0 cm rfl fun _ => (zI (nR (zG (zc (vD  _ ) ?_))))
 rintro _ ab ⟨au, rfl, f, bb, bd⟩
 have bl := Row.nb_ge i bb
 have u := u.tr a5.below
 replace bb := Nat.le_trans u.size bb
 refine nQ (yC ?_)
 have b := zA (zA b a5.below) bd
 have a1 : q < ab.heap.size := yD b
 have d := zA (zA d a5.below) bd
 have a4 : ag < ab.heap.size := yD d
 have j := zA (zA j a5.below) bd
 have be : b5 < ab.heap.size := yD j
 have ai : au < ab.heap.size := yD f
 have u := u.tr bd
 have br := u.size
 have cy := u
 refine wQ 72 [(pt au 0)] ([] : List SpS) zk (fun _ _ => rfl) (qQ au ) f ((fun D A B h hc hd => zL h hc (fun h => Nat.not_lt.2 (hd _ h) ai))) (by intro x; rfl) (fun K ba A => ∃ (m : List SpS) (n : Value), (A.heap[q]? = some (.cells [a7, (.bool true)].toArray 136 (0, 0))) ∧ (A.heap[ag]? = some (.cells [n, (.bool true)].toArray 136 (0, 0))) ∧ (A.heap[b5]? = some (.cells [(pt ag 0)].toArray 66 (0, 0))) ∧ (A.heap[au]? = some (.cells [(.pointer none)].toArray 66 (0, 0))) ∧ (Row A w.heap.size 66 1 encPtr (.slice (some ⟨bx, 0, none⟩) 2 2) ([none, some q] : List (Option Nat))) ∧ (∀ g, Value.ownBlock (.slice (some ⟨bx, 0, none⟩) 2 2) = some g → ¬ Iv ab.heap.size K g) ∧ (Row A w.heap.size 138 3 encSpanS n m) ∧ (∀ g, Value.ownBlock n = some g → ¬ Iv ab.heap.size K g) ∧ (Below w.heap.size w A) ∧ (m = layAll eqS [] ba) ∧ (RiseG 0 m)) (fun K c ba A => False) ?_ ?_ ?_ ?_ ?_ ?_
 ·intro A hA
  have i := i.below bd
  exact ⟨[], (.slice none 0 0), zA b hA, zA d hA, zA j hA, zA f hA, i.below hA, qE i _, Row.nil _ _ _ _ _, nr_nil _ _, u.trans (hA.mono u.size), by rfl, by trivial⟩
 ·rintro K ba A B ⟨m, n, b, d, j, f, i, r, a, o, u, r1, r2⟩ hc
  exact ⟨m, n, zL b hc (fun h => Nat.not_lt.2 h.1 a1), zL d hc (fun h => Nat.not_lt.2 h.1 a4), zL j hc (fun h => Nat.not_lt.2 h.1 be), zL f hc (fun h => Nat.not_lt.2 h.1 ai), i.ch hc r, r, a.ch hc o, o, hc.below u u.size (fun k h => Nat.le_trans br h.1), r1, r2⟩
 ·intro K c _ A B h hc; exact h.elim
 ·intro l K ba x A hi hN cr hK bq
  obtain ⟨m, n, b, d, j, f, i, r, a, o, u, r1, r2⟩ := hi
  have hk := Kp.refl (ab.heap.size) K A
  have ax : ¬ Iv (ab.heap.size) K q := fun h => Nat.not_lt.2 h.1 a1
  have ao : ¬ Iv (ab.heap.size) K ag := fun h => Nat.not_lt.2 h.1 a4
  have bh : ¬ Iv (ab.heap.size) K b5 := fun h => Nat.not_lt.2 h.1 be
  have az : ¬ Iv (ab.heap.size) K au := fun h => Nat.not_lt.2 h.1 ai
  have f := hN
  have hx := cp.pre bq
  refine wR (zN [(I3 0), (I3 0)] 29 ?_)
  intro cs c4 ac
  have bp := ac.ge u.size
  have a2 : ¬ Iv ab.heap.size K cs := fun h => by have := h.2; have := ac.num; omega
  replace hk := hk.ch (Ch.of_below ac.below) hK (fun _ h => h.elim)
  replace hK := Nat.le_trans hK (ac.below.size)
  have t := ac.here
  refine qC [(I3 x.1), (I3 x.2.1)] t ?_
  intro c0 ah
  replace hk := hk.ch (Ch.of_wrote ah) hK (fun k e h => a2 (e ▸ h))
  replace hK := Nat.le_trans hK (Nat.le_of_eq ah.size.symm)
  have b := zA b ac.below
  have b := zC b ah (zH b t zi)
  have d := zA d ac.below
  have d := zC d ah (zH d t zi)
  have j := zA j ac.below
  have j := zC j ah (zH j t zi)
  have f := zA f ac.below
  have f := zC f ah (zH f t zi)
  have i := i.below ac.below
  have i := i.wrote ah (i.ne t zi)
  have a := a.below ac.below
  have a := a.wrote ah (a.ne t zi)
  have t := ah.here
  refine nQ (zW (zI (zR (zB ⟨hk, ?_⟩))))
  intro ct am
  have u := (u.tr ac.below).trans (ah.below bp)
  have u := am.below u u.size (fun k h => Nat.le_trans br h.1)
  replace hK := Nat.le_trans hK am.size
  replace hk := Kp.refl (ab.heap.size) K ct
  have d := zL d am ao
  have j := zL j am bh
  have t := zL t am a2
  have a := a.ch am o
  refine yC (zW (zO 0 j rfl (wG t (zG (zc (qY ag n m x.1 x.2.1 x.2.2 w.heap.size _ u.size d ae a (by first | exact s2 | exact r2 | trivial) (by first | omega | (simp; done)) (by first | omega | (simp; done))) ?_)))))
  rintro _ c5 ⟨ca, rfl, cc, b7, ce, a3⟩
  have bt : ∀ k, Dm ag n k → ¬ Iv (ab.heap.size) K k := fun k e => e.elim (fun x => by rw [x]; exact ao) (fun x => o k x)
  have bj : ∀ g, Value.ownBlock ca = some g → ¬ Iv (ab.heap.size) K g := fun g hg => (ce g hg).elim (fun x y => by have := y.2; omega) (fun e => bt g e)
  replace hk := hk.ch a3 hK bt
  replace hK := Nat.le_trans hK a3.size
  have u := a3.below u u.size (fun k e => e.elim (fun x => x ▸ ae) (fun x => (World.ownsRow.lt a k x).1))
  have b := zL b am ax
  have b := yH b a3 an (a.ne b zi)
  have j := yH j a3 (zH j d zi) (a.ne j zi)
  have f := zL f am az
  have f := yH f a3 (zH f d zi) (a.ne f zi)
  have i := i.ch am r
  have i := i.ch_mut a3 (i.ne d zi) (i.apart a zk)
  have d := cc
  refine zR (zS (yU hk f ⟨(layF eqS m x.1 x.2.1 x.2.2), ca, b, d, j, f, i, r, b7, bj, u, ?_, ?_⟩))
  ·rw [r1]; exact (wY _ _ _).symm
  exact wU r2
 ·intro K A hi cw s
  obtain ⟨m, n, b, d, j, f, i, r, a, o, u, r1, r2⟩ := hi
  have aq := al.below u
  refine zS (zS (zB (zW (vG 0 1 (zG (zR (xQ (wR (zr (.bool true) (nW (zT (zZ (zB (yA (yC (wR ?_))))))))))))))))
  have cf : ([none, some q] : List (Option Nat))[1]? = some (some q) := rfl
  refine zE1 i.rd el203 1 cf rfl fun _ => (zI (nR (zG (zc (c_all_S q a7 ys _ b aq) ?_))))
  rintro _ aa ⟨bc, rfl, p, a9, ar⟩
  have bn := Row.nb_ge i a9
  replace a9 := Nat.le_trans u.size a9
  refine nQ (yC ?_)
  have b := zA b ar
  have ak : q < aa.heap.size := yD b
  have d := zA d ar
  have a6 : ag < aa.heap.size := yD d
  have j := zA j ar
  have bf : b5 < aa.heap.size := yD j
  have f := zA f ar
  have ay : au < aa.heap.size := yD f
  have s := zA s ar
  have aw : ab.heap.size < aa.heap.size := yD s
  have aj : bc < aa.heap.size := yD p
  have u := u.tr ar
  have bo := u.size
  have cx := u
  have aq := al.below u
  refine wQ 72 [(pt bc 0)] ys zk (fun _ _ => rfl) (it_all_S bc q a7 ys (by first | omega | (simp; done))) ⟨p, b, aq⟩ ((fun D A B h hc hd => ⟨zL h.1 hc (fun h => Nat.not_lt.2 (hd _ h) aj), zL h.2.1 hc (fun h => Nat.not_lt.2 (hd _ h) ak), Rd.ch aq (Nat.le_refl _) h.2.2 hc hd⟩)) (by intro x; rfl) (fun K ba A => ∃ (mm : List SpS) (n : Value), (A.heap[q]? = some (.cells [a7, (.bool true)].toArray 136 (0, 0))) ∧ (A.heap[ag]? = some (.cells [n, (.bool true)].toArray 136 (0, 0))) ∧ (A.heap[b5]? = some (.cells [(pt ag 0)].toArray 66 (0, 0))) ∧ (A.heap[au]? = some (.cells [(.pointer none)].toArray 66 (0, 0))) ∧ (A.heap[ab.heap.size]? = some (.deferred (some []))) ∧ (A.heap[bc]? = some (.cells [(pt q 0)].toArray 66 (0, 0))) ∧ (Row A w.heap.size 66 1 encPtr (.slice (some ⟨bx, 0, none⟩) 2 2) ([none, some q] : List (Option Nat))) ∧ (∀ g, Value.ownBlock (.slice (some ⟨bx, 0, none⟩) 2 2) = some g → ¬ Iv aa.heap.size K g) ∧ (Row A w.heap.size 138 3 encSpanS n mm) ∧ (∀ g, Value.ownBlock n = some g → ¬ Iv aa.heap.size K g) ∧ (Below w.heap.size w A) ∧ (mm = layAll eqS (layAll eqS [] ([] : List SpS)) ba) ∧ (RiseG 0 mm)) (fun K c ba A => False) ?_ ?_ ?_ ?_ ?_ ?_
  ·intro A hA
   have i := i.below ar
   have a := a.below ar
   exact ⟨m, n, zA b hA, zA d hA, zA j hA, zA f hA, zA s hA, zA p hA, i.below hA, qE i _, a.below hA, qE a _, u.trans (hA.mono u.size), by exact r1, by exact r2⟩
  ·rintro K ba A B ⟨mm, n, b, d, j, f, s, p, i, r, a, o, u, s1, s2⟩ hc
   exact ⟨mm, n, zL b hc (fun h => Nat.not_lt.2 h.1 ak), zL d hc (fun h => Nat.not_lt.2 h.1 a6), zL j hc (fun h => Nat.not_lt.2 h.1 bf), zL f hc (fun h => Nat.not_lt.2 h.1 ay), zL s hc (fun h => Nat.not_lt.2 h.1 aw), zL p hc (fun h => Nat.not_lt.2 h.1 aj), i.ch hc r, r, a.ch hc o, o, hc.below u u.size (fun k h => Nat.le_trans bo h.1), s1, s2⟩
  ·intro K c _ A B h hc; exact h.elim
  ·intro l K ba x A hi hN cr hK bq
   obtain ⟨mm, n, b, d, j, f, s, p, i, r, a, o, u, s1, s2⟩ := hi
   have hk := Kp.refl (aa.heap.size) K A
   have ax : ¬ Iv (aa.heap.size) K q := fun h => Nat.not_lt.2 h.1 ak
   have ao : ¬ Iv (aa.heap.size) K ag := fun h => Nat.not_lt.2 h.1 a6
   have bh : ¬ Iv (aa.heap.size) K b5 := fun h => Nat.not_lt.2 h.1 bf
   have az : ¬ Iv (aa.heap.size) K au := fun h => Nat.not_lt.2 h.1 ay
   have b3 : ¬ Iv (aa.heap.size) K ab.heap.size := fun h => Nat.not_lt.2 h.1 aw
   have bw : ¬ Iv (aa.heap.size) K bc := fun h => Nat.not_lt.2 h.1 aj
   have aq := al.below u
   have p := hN.1
   have b := hN.2.1
   have hx := hry.pre bq
   refine wR (zN [(I3 0), (I3 0)] 29 ?_)
   intro cv c7 z
   have bp := z.ge u.size
   have a2 : ¬ Iv aa.heap.size K cv := fun h => by have := h.2; have := z.num; omega
   replace hk := hk.ch (Ch.of_below z.below) hK (fun _ h => h.elim)
   replace hK := Nat.le_trans hK (z.below.size)
   have t := z.here
   refine qC [(I3 x.1), (I3 x.2.1)] t ?_
   intro c1 ad
   replace hk := hk.ch (Ch.of_wrote ad) hK (fun k e h => a2 (e ▸ h))
   replace hK := Nat.le_trans hK (Nat.le_of_eq ad.size.symm)
   have b := zA b z.below
   have b := zC b ad (zH b t zi)
   have d := zA d z.below
   have d := zC d ad (zH d t zi)
   have j := zA j z.below
   have j := zC j ad (zH j t zi)
   have f := zA f z.below
   have f := zC f ad (zH f t zi)
   have s := zA s z.below
   have s := zC s ad (zH s t zi)
   have p := zA p z.below
   have p := zC p ad (zH p t zi)
   have i := i.below z.below
   have i := i.wrote ad (i.ne t zi)
   have a := a.below z.below
   have a := a.wrote ad (a.ne t zi)
   have t := ad.here
   refine nQ (zW (zI (zR (zB ⟨hk, ?_⟩))))
   intro cq af
   have u := (u.tr z.below).trans (ad.below bp)
   have u := af.below u u.size (fun k h => Nat.le_trans bo h.1)
   replace hK := Nat.le_trans hK af.size
   replace hk := Kp.refl (aa.heap.size) K cq
   have d := zL d af ao
   have j := zL j af bh
   have t := zL t af a2
   have a := a.ch af o
   refine yC (zW (zO 0 j rfl (wG t (zG (zc (qY ag n mm x.1 x.2.1 x.2.2 w.heap.size _ u.size d ae a (by first | exact s2 | exact r2 | trivial) (by first | omega | (simp; done)) (by first | omega | (simp; done))) ?_)))))
   rintro _ c6 ⟨cb, rfl, cg, b2, ck, ap⟩
   have bt : ∀ k, Dm ag n k → ¬ Iv (aa.heap.size) K k := fun k e => e.elim (fun x => by rw [x]; exact ao) (fun x => o k x)
   have bm : ∀ g, Value.ownBlock cb = some g → ¬ Iv (aa.heap.size) K g := fun g hg => (ck g hg).elim (fun x y => by have := y.2; omega) (fun e => bt g e)
   replace hk := hk.ch ap hK bt
   replace hK := Nat.le_trans hK ap.size
   have u := ap.below u u.size (fun k e => e.elim (fun x => x ▸ ae) (fun x => (World.ownsRow.lt a k x).1))
   have b := zL b af ax
   have b := yH b ap an (a.ne b zi)
   have j := yH j ap (zH j d zi) (a.ne j zi)
   have f := zL f af az
   have f := yH f ap (zH f d zi) (a.ne f zi)
   have s := zL s af b3
   have s := yH s ap (zH s d zi) (a.ne s zi)
   have p := zL p af bw
   have p := yH p ap (zH p d zi) (a.ne p zi)
   have i := i.ch af r
   have i := i.ch_mut ap (i.ne d zi) (i.apart a zk)
   have d := cg
   refine zR (zS ?_)
   have aq := al.below u
   refine yU hk ⟨p, b, aq⟩ ⟨(layF eqS mm x.1 x.2.1 x.2.2), cb, b, d, j, f, s, p, i, r, b2, bm, u, ?_, ?_⟩
   ·rw [s1]; exact (wY _ _ _).symm
   exact wU s2
  ·intro K A hi cw bu
   obtain ⟨mm, n, b, d, j, f, s, p, i, r, a, o, u, s1, s2⟩ := hi
   have bk : NE ab.heap.size (aa.heap.size) := Nat.ne_of_lt aw
   refine zS (zS (zB (zW (vG 1 1 (zG (zR (xQ (wR (zr (.bool false) (nW (zF (yZ (yE (yE (yP (zB (wR (zO 0 j rfl (zI (nQ (yB (wC (ds := [⟨.collected aa.heap.size, #[]⟩, ⟨.collected ab.heap.size, #[]⟩]) zk (xC bu ?_)))))))))))))))))))))))
   intro c2 bi
   have d := zC d bi (zH d bu zi)
   have a := a.wrote bi (a.ne bu zi)
   have s := zC s bi bk
   refine xC s ?_
   intro c3 bv
   have d := zC d bv (zH d s zi)
   have a := a.wrote bv (a.ne s zi)
   refine wW [.tmp 4] [(pt ag 0)] rfl ⟨zk, trivial⟩ ?_
   have u := (u.trans (bi.below bo)).trans (bv.below br)
   exact ⟨n, ag, rfl, a.cast (by first | exact s1 | rfl), d, ae, u⟩
  intro K c _ x A _ h; exact h.elim
 intro K c _ x A _ h; exact h.elim
theorem c_over_ln_S (r : Nat) (a6 : Value) (xs : List (Int × Int × List UInt8)) (w : World) (f : w.heap[r]? = some (.cells [a6, (.bool true)].toArray 136 (0, 0))) (ak : Rd w encSpanS a6 xs) (hrx : RiseG 0 xs) :
  Calls Try.prog 117 #[(pt r 0), (.pointer none)] w (Ret fun v w' => ∃ (q0 : Value) (cb0 : Nat), v = (pt cb0 0) ∧ Row w' w.heap.size 138 3 encSpanS q0 (overF eqS xs ([] : List SpS)) ∧ w'.heap[cb0]? = some (.cells [q0, (.bool true)].toArray 136 (0, 0)) ∧ w.heap.size ≤ cb0 ∧ Below w.heap.size w w') := by
 refine enterM (args := [(pt r 0), (.pointer none)]) Try.func117 rfl (zk : _ = 29) zk ?_
 have u := Below.refl w.heap.size w
 have al := ak
 have cv := hrx.len
 have co : RiseG 0 ([] : List SpS) := trivial
 refine wR (zI (nR (zc (qZ  _ ) ?_)))
 rintro _ w1 ⟨ag, rfl, b, ae, cd⟩
 have ar := NE_ge (yD f) ae
 replace ae := Nat.le_trans u.size ae
 refine zN [(.pointer none)] 66 ?_
 intro b5 w6 bs
 have u := u.tr cd
 have cj := bs.ge u.size
 have j := bs.here
 refine z1 0 (pt ag 0) [(pt ag 0)] j ?_
 intro w8 b0
 have f := zA (zA f cd) bs.below
 have f := zC f b0 (zH f j zi)
 have b := zA b bs.below
 have b := zC b b0 (zH b j zi)
 have j := b0.here
 refine nW (wR (zG (zG (zM 2 [(pt r 0), (.pointer none)] 66 ?_))))
 intro bx ct a4
 have u := (u.tr bs.below).trans (b0.below cj)
 have b1 := a4.ge u.size
 have i : Row ct w.heap.size 66 1 encPtr (.slice (some ⟨bx, 0, none⟩) 2 2) ([some r, none] : List (Option Nat)) := Row.made ([some r, none] : List (Option Nat)) a4 b1 rfl rfl (by first | decide | (simp; done))
 refine vI Try.underlying203 (i.rd).len (zG (nQ (yC (W_unroll 2 (wR (zr (.bool true) (nW (zT (zZ (zB (yA (yC (wR ?_)))))))))))))
 have cm : ([some r, none] : List (Option Nat))[0]? = some (some r) := rfl
 have u := u.tr a4.below
 have f := zA f a4.below
 have ak := al.below u
 refine zE1 i.rd el203 0 cm rfl fun _ => (zI (nR (zG (zc (c_all_S r a6 xs _ f ak) ?_))))
 rintro _ ab ⟨au, rfl, d, bb, bd⟩
 have bl := Row.nb_ge i bb
 replace bb := Nat.le_trans u.size bb
 refine nQ (yC ?_)
 have f := zA f bd
 have ap : r < ab.heap.size := yD f
 have b := zA (zA b a4.below) bd
 have a2 : ag < ab.heap.size := yD b
 have j := zA (zA j a4.below) bd
 have be : b5 < ab.heap.size := yD j
 have ai : au < ab.heap.size := yD d
 have u := u.tr bd
 have br := u.size
 have cy := u
 have ak := al.below u
 refine wQ 72 [(pt au 0)] xs zk (fun _ _ => rfl) (it_all_S au r a6 xs (by first | omega | (simp; done))) ⟨d, f, ak⟩ ((fun D A B h hc hd => ⟨zL h.1 hc (fun h => Nat.not_lt.2 (hd _ h) ai), zL h.2.1 hc (fun h => Nat.not_lt.2 (hd _ h) ap), Rd.ch ak (Nat.le_refl _) h.2.2 hc hd⟩)) (by intro x; rfl) (fun K ba A => ∃ (m : List SpS) (n : Value), (A.heap[r]? = some (.cells [a6, (.bool true)].toArray 136 (0, 0))) ∧ (A.heap[ag]? = some (.cells [n, (.bool true)].toArray 136 (0, 0))) ∧ (A.heap[b5]? = some (.cells [(pt ag 0)].toArray 66 (0, 0))) ∧ (A.heap[au]? = some (.cells [(pt r 0)].toArray 66 (0, 0))) ∧ (Row A w.heap.size 66 1 encPtr (.slice (some ⟨bx, 0, none⟩) 2 2) ([some r, none] : List (Option Nat))) ∧ (∀ g, Value.ownBlock (.slice (some ⟨bx, 0, none⟩) 2 2) = some g → ¬ Iv ab.heap.size K g) ∧ (Row A w.heap.size 138 3 encSpanS n m) ∧ (∀ g, Value.ownBlock n = some g → ¬ Iv ab.heap.size K g) ∧ (Below w.heap.size w A) ∧ (m = layAll eqS [] ba) ∧ (RiseG 0 m)) (fun K c ba A => False) ?_ ?_ ?_ ?_ ?_ ?_
 ·intro A hA
  have i := i.below bd
  exact ⟨[], (.slice none 0 0), zA f hA, zA b hA, zA j hA, zA d hA, i.below hA, qE i _, Row.nil _ _ _ _ _, nr_nil _ _, u.trans (hA.mono u.size), by rfl, by trivial⟩
 ·rintro K ba A B ⟨m, n, f, b, j, d, i, q, a, o, u, r1, r2⟩ hc
  exact ⟨m, n, zL f hc (fun h => Nat.not_lt.2 h.1 ap), zL b hc (fun h => Nat.not_lt.2 h.1 a2), zL j hc (fun h => Nat.not_lt.2 h.1 be), zL d hc (fun h => Nat.not_lt.2 h.1 ai), i.ch hc q, q, a.ch hc o, o, hc.below u u.size (fun k h => Nat.le_trans br h.1), r1, r2⟩
 ·intro K c _ A B h hc; exact h.elim
 ·intro l K ba x A hi hN cq hK bq
  obtain ⟨m, n, f, b, j, d, i, q, a, o, u, r1, r2⟩ := hi
  have hk := Kp.refl (ab.heap.size) K A
  have a8 : ¬ Iv (ab.heap.size) K r := fun h => Nat.not_lt.2 h.1 ap
  have an : ¬ Iv (ab.heap.size) K ag := fun h => Nat.not_lt.2 h.1 a2
  have bh : ¬ Iv (ab.heap.size) K b5 := fun h => Nat.not_lt.2 h.1 be
  have ay : ¬ Iv (ab.heap.size) K au := fun h => Nat.not_lt.2 h.1 ai
  have ak := al.below u
  have d := hN.1
  have f := hN.2.1
  have hx := hrx.pre bq
  refine wR (zN [(I3 0), (I3 0)] 29 ?_)
  intro cr c4 ac
  have bp := ac.ge u.size
  have a0 : ¬ Iv ab.heap.size K cr := fun h => by have := h.2; have := ac.num; omega
  replace hk := hk.ch (Ch.of_below ac.below) hK (fun _ h => h.elim)
  replace hK := Nat.le_trans hK (ac.below.size)
  have t := ac.here
  refine qC [(I3 x.1), (I3 x.2.1)] t ?_
  intro c0 ah
  replace hk := hk.ch (Ch.of_wrote ah) hK (fun k e h => a0 (e ▸ h))
  replace hK := Nat.le_trans hK (Nat.le_of_eq ah.size.symm)
  have f := zA f ac.below
  have f := zC f ah (zH f t zi)
  have b := zA b ac.below
  have b := zC b ah (zH b t zi)
  have j := zA j ac.below
  have j := zC j ah (zH j t zi)
  have d := zA d ac.below
  have d := zC d ah (zH d t zi)
  have i := i.below ac.below
  have i := i.wrote ah (i.ne t zi)
  have a := a.below ac.below
  have a := a.wrote ah (a.ne t zi)
  have t := ah.here
  refine nQ (zW (zI (zR (zB ⟨hk, ?_⟩))))
  intro cs am
  have u := (u.tr ac.below).trans (ah.below bp)
  have u := am.below u u.size (fun k h => Nat.le_trans br h.1)
  replace hK := Nat.le_trans hK am.size
  replace hk := Kp.refl (ab.heap.size) K cs
  have b := zL b am an
  have j := zL j am bh
  have t := zL t am a0
  have a := a.ch am o
  refine yC (zW (zO 0 j rfl (wG t (zG (zc (qY ag n m x.1 x.2.1 x.2.2 w.heap.size _ u.size b ae a (by first | exact s2 | exact r2 | trivial) (by first | omega | (simp; done)) (by first | omega | (simp; done))) ?_)))))
  rintro _ c5 ⟨ca, rfl, cc, b7, ce, a1⟩
  have bt : ∀ k, Dm ag n k → ¬ Iv (ab.heap.size) K k := fun k e => e.elim (fun x => by rw [x]; exact an) (fun x => o k x)
  have bj : ∀ g, Value.ownBlock ca = some g → ¬ Iv (ab.heap.size) K g := fun g hg => (ce g hg).elim (fun x y => by have := y.2; omega) (fun e => bt g e)
  replace hk := hk.ch a1 hK bt
  replace hK := Nat.le_trans hK a1.size
  have u := a1.below u u.size (fun k e => e.elim (fun x => x ▸ ae) (fun x => (World.ownsRow.lt a k x).1))
  have f := zL f am a8
  have f := yH f a1 ar (a.ne f zi)
  have j := yH j a1 (zH j b zi) (a.ne j zi)
  have d := zL d am ay
  have d := yH d a1 (zH d b zi) (a.ne d zi)
  have i := i.ch am q
  have i := i.ch_mut a1 (i.ne b zi) (i.apart a zk)
  have b := cc
  refine zR (zS ?_)
  have ak := al.below u
  refine yU hk ⟨d, f, ak⟩ ⟨(layF eqS m x.1 x.2.1 x.2.2), ca, f, b, j, d, i, q, b7, bj, u, ?_, ?_⟩
  ·rw [r1]; exact (wY _ _ _).symm
  exact wU r2
 ·intro K A hi cw s
  obtain ⟨m, n, f, b, j, d, i, q, a, o, u, r1, r2⟩ := hi
  refine zS (zS (zB (zW (vG 0 1 (zG (zR (xQ (wR (zr (.bool true) (nW (zT (zZ (zB (yA (yC (wR ?_))))))))))))))))
  have cf : ([some r, none] : List (Option Nat))[1]? = some (none) := rfl
  refine zE1 i.rd el203 1 cf rfl fun _ => (zI (nR (zG (zc (vD  _ ) ?_))))
  rintro _ aa ⟨bc, rfl, p, a9, aq⟩
  have bn := Row.nb_ge i a9
  replace a9 := Nat.le_trans u.size a9
  refine nQ (yC ?_)
  have f := zA f aq
  have a3 : r < aa.heap.size := yD f
  have b := zA b aq
  have a5 : ag < aa.heap.size := yD b
  have j := zA j aq
  have bf : b5 < aa.heap.size := yD j
  have d := zA d aq
  have ax : au < aa.heap.size := yD d
  have s := zA s aq
  have aw : ab.heap.size < aa.heap.size := yD s
  have aj : bc < aa.heap.size := yD p
  have u := u.tr aq
  have bo := u.size
  have cx := u
  refine wQ 72 [(pt bc 0)] ([] : List SpS) zk (fun _ _ => rfl) (qQ bc ) p ((fun D A B h hc hd => zL h hc (fun h => Nat.not_lt.2 (hd _ h) aj))) (by intro x; rfl) (fun K ba A => ∃ (mm : List SpS) (n : Value), (A.heap[r]? = some (.cells [a6, (.bool true)].toArray 136 (0, 0))) ∧ (A.heap[ag]? = some (.cells [n, (.bool true)].toArray 136 (0, 0))) ∧ (A.heap[b5]? = some (.cells [(pt ag 0)].toArray 66 (0, 0))) ∧ (A.heap[au]? = some (.cells [(pt r 0)].toArray 66 (0, 0))) ∧ (A.heap[ab.heap.size]? = some (.deferred (some []))) ∧ (A.heap[bc]? = some (.cells [(.pointer none)].toArray 66 (0, 0))) ∧ (Row A w.heap.size 66 1 encPtr (.slice (some ⟨bx, 0, none⟩) 2 2) ([some r, none] : List (Option Nat))) ∧ (∀ g, Value.ownBlock (.slice (some ⟨bx, 0, none⟩) 2 2) = some g → ¬ Iv aa.heap.size K g) ∧ (Row A w.heap.size 138 3 encSpanS n mm) ∧ (∀ g, Value.ownBlock n = some g → ¬ Iv aa.heap.size K g) ∧ (Below w.heap.size w A) ∧ (mm = layAll eqS (layAll eqS [] xs) ba) ∧ (RiseG 0 mm)) (fun K c ba A => False) ?_ ?_ ?_ ?_ ?_ ?_
  ·intro A hA
   have i := i.below aq
   have a := a.below aq
   exact ⟨m, n, zA f hA, zA b hA, zA j hA, zA d hA, zA s hA, zA p hA, i.below hA, qE i _, a.below hA, qE a _, u.trans (hA.mono u.size), by exact r1, by exact r2⟩
  ·rintro K ba A B ⟨mm, n, f, b, j, d, s, p, i, q, a, o, u, s1, s2⟩ hc
   exact ⟨mm, n, zL f hc (fun h => Nat.not_lt.2 h.1 a3), zL b hc (fun h => Nat.not_lt.2 h.1 a5), zL j hc (fun h => Nat.not_lt.2 h.1 bf), zL d hc (fun h => Nat.not_lt.2 h.1 ax), zL s hc (fun h => Nat.not_lt.2 h.1 aw), zL p hc (fun h => Nat.not_lt.2 h.1 aj), i.ch hc q, q, a.ch hc o, o, hc.below u u.size (fun k h => Nat.le_trans bo h.1), s1, s2⟩
  ·intro K c _ A B h hc; exact h.elim
  ·intro l K ba x A hi hN cq hK bq
   obtain ⟨mm, n, f, b, j, d, s, p, i, q, a, o, u, s1, s2⟩ := hi
   have hk := Kp.refl (aa.heap.size) K A
   have a8 : ¬ Iv (aa.heap.size) K r := fun h => Nat.not_lt.2 h.1 a3
   have an : ¬ Iv (aa.heap.size) K ag := fun h => Nat.not_lt.2 h.1 a5
   have bh : ¬ Iv (aa.heap.size) K b5 := fun h => Nat.not_lt.2 h.1 bf
   have ay : ¬ Iv (aa.heap.size) K au := fun h => Nat.not_lt.2 h.1 ax
   have b3 : ¬ Iv (aa.heap.size) K ab.heap.size := fun h => Nat.not_lt.2 h.1 aw
   have bw : ¬ Iv (aa.heap.size) K bc := fun h => Nat.not_lt.2 h.1 aj
   have p := hN
   have hx := co.pre bq
   refine wR (zN [(I3 0), (I3 0)] 29 ?_)
   intro cu c7 z
   have bp := z.ge u.size
   have a0 : ¬ Iv aa.heap.size K cu := fun h => by have := h.2; have := z.num; omega
   replace hk := hk.ch (Ch.of_below z.below) hK (fun _ h => h.elim)
   replace hK := Nat.le_trans hK (z.below.size)
   have t := z.here
   refine qC [(I3 x.1), (I3 x.2.1)] t ?_
   intro c1 ad
   replace hk := hk.ch (Ch.of_wrote ad) hK (fun k e h => a0 (e ▸ h))
   replace hK := Nat.le_trans hK (Nat.le_of_eq ad.size.symm)
   have f := zA f z.below
   have f := zC f ad (zH f t zi)
   have b := zA b z.below
   have b := zC b ad (zH b t zi)
   have j := zA j z.below
   have j := zC j ad (zH j t zi)
   have d := zA d z.below
   have d := zC d ad (zH d t zi)
   have s := zA s z.below
   have s := zC s ad (zH s t zi)
   have p := zA p z.below
   have p := zC p ad (zH p t zi)
   have i := i.below z.below
   have i := i.wrote ad (i.ne t zi)
   have a := a.below z.below
   have a := a.wrote ad (a.ne t zi)
   have t := ad.here
   refine nQ (zW (zI (zR (zB ⟨hk, ?_⟩))))
   intro cp af
   have u := (u.tr z.below).trans (ad.below bp)
   have u := af.below u u.size (fun k h => Nat.le_trans bo h.1)
   replace hK := Nat.le_trans hK af.size
   replace hk := Kp.refl (aa.heap.size) K cp
   have b := zL b af an
   have j := zL j af bh
   have t := zL t af a0
   have a := a.ch af o
   refine yC (zW (zO 0 j rfl (wG t (zG (zc (qY ag n mm x.1 x.2.1 x.2.2 w.heap.size _ u.size b ae a (by first | exact s2 | exact r2 | trivial) (by first | omega | (simp; done)) (by first | omega | (simp; done))) ?_)))))
   rintro _ c6 ⟨cb, rfl, cg, b2, ck, ao⟩
   have bt : ∀ k, Dm ag n k → ¬ Iv (aa.heap.size) K k := fun k e => e.elim (fun x => by rw [x]; exact an) (fun x => o k x)
   have bm : ∀ g, Value.ownBlock cb = some g → ¬ Iv (aa.heap.size) K g := fun g hg => (ck g hg).elim (fun x y => by have := y.2; omega) (fun e => bt g e)
   replace hk := hk.ch ao hK bt
   replace hK := Nat.le_trans hK ao.size
   have u := ao.below u u.size (fun k e => e.elim (fun x => x ▸ ae) (fun x => (World.ownsRow.lt a k x).1))
   have f := zL f af a8
   have f := yH f ao ar (a.ne f zi)
   have j := yH j ao (zH j b zi) (a.ne j zi)
   have d := zL d af ay
   have d := yH d ao (zH d b zi) (a.ne d zi)
   have s := zL s af b3
   have s := yH s ao (zH s b zi) (a.ne s zi)
   have p := zL p af bw
   have p := yH p ao (zH p b zi) (a.ne p zi)
   have i := i.ch af q
   have i := i.ch_mut ao (i.ne b zi) (i.apart a zk)
   have b := cg
   refine zR (zS (yU hk p ⟨(layF eqS mm x.1 x.2.1 x.2.2), cb, f, b, j, d, s, p, i, q, b2, bm, u, ?_, ?_⟩))
   ·rw [s1]; exact (wY _ _ _).symm
   exact wU s2
  ·intro K A hi cw bu
   obtain ⟨mm, n, f, b, j, d, s, p, i, q, a, o, u, s1, s2⟩ := hi
   have bk : NE ab.heap.size (aa.heap.size) := Nat.ne_of_lt aw
   refine zS (zS (zB (zW (vG 1 1 (zG (zR (xQ (wR (zr (.bool false) (nW (zF (yZ (yE (yE (yP (zB (wR (zO 0 j rfl (zI (nQ (yB (wC (ds := [⟨.collected aa.heap.size, #[]⟩, ⟨.collected ab.heap.size, #[]⟩]) zk (xC bu ?_)))))))))))))))))))))))
   intro c2 bi
   have b := zC b bi (zH b bu zi)
   have a := a.wrote bi (a.ne bu zi)
   have s := zC s bi bk
   refine xC s ?_
   intro c3 bv
   have b := zC b bv (zH b s zi)
   have a := a.wrote bv (a.ne s zi)
   refine wW [.tmp 4] [(pt ag 0)] rfl ⟨zk, trivial⟩ ?_
   have u := (u.trans (bi.below bo)).trans (bv.below br)
   exact ⟨n, ag, rfl, a.cast (by first | exact s1 | rfl), b, ae, u⟩
  intro K c _ x A _ h; exact h.elim
 intro K c _ x A _ h; exact h.elim
theorem c_over_nn_S (w : World) :
  Calls Try.prog 117 #[(.pointer none), (.pointer none)] w (Ret fun v w' => ∃ (q0 : Value) (cb0 : Nat), v = (pt cb0 0) ∧ Row w' w.heap.size 138 3 encSpanS q0 (overF eqS ([] : List SpS) ([] : List SpS)) ∧ w'.heap[cb0]? = some (.cells [q0, (.bool true)].toArray 136 (0, 0)) ∧ w.heap.size ≤ cb0 ∧ Below w.heap.size w w') := by
 refine enterM (args := [(.pointer none), (.pointer none)]) Try.func117 rfl (zk : _ = 29) zk ?_
 have s := Below.refl w.heap.size w
 have cc : RiseG 0 ([] : List SpS) := trivial
 have cd : RiseG 0 ([] : List SpS) := trivial
 refine wR (zI (nR (zc (qZ  _ ) ?_)))
 rintro _ w1 ⟨ac, rfl, b, ae, ci⟩
 replace ae := Nat.le_trans s.size ae
 refine zN [(.pointer none)] 66 ?_
 intro b5 w6 bp
 have s := s.tr ci
 have b8 := bp.ge s.size
 have i := bp.here
 refine z1 0 (pt ac 0) [(pt ac 0)] i ?_
 intro w8 bu
 have b := zA b bp.below
 have b := zC b bu (zH b i zi)
 have i := bu.here
 refine nW (wR (zG (zG (zM 2 [(.pointer none), (.pointer none)] 66 ?_))))
 intro bn cl a3
 have s := (s.tr bp.below).trans (bu.below b8)
 have bq := a3.ge s.size
 have f : Row cl w.heap.size 66 1 encPtr (.slice (some ⟨bn, 0, none⟩) 2 2) ([none, none] : List (Option Nat)) := Row.made ([none, none] : List (Option Nat)) a3 bq rfl rfl (by first | decide | (simp; done))
 refine vI Try.underlying203 (f.rd).len (zG (nQ (yC (W_unroll 2 (wR (zr (.bool true) (nW (zT (zZ (zB (yA (yC (wR ?_)))))))))))))
 have cb : ([none, none] : List (Option Nat))[0]? = some (none) := rfl
 refine zE1 f.rd el203 0 cb rfl fun _ => (zI (nR (zG (zc (vD  _ ) ?_))))
 rintro _ z ⟨ak, rfl, d, a1, a8⟩
 have bc := Row.nb_ge f a1
 have s := s.tr a3.below
 replace a1 := Nat.le_trans s.size a1
 refine nQ (yC ?_)
 have b := zA (zA b a3.below) a8
 have av : ac < z.heap.size := yD b
 have i := zA (zA i a3.below) a8
 have a4 : b5 < z.heap.size := yD i
 have af : ak < z.heap.size := yD d
 have s := s.tr a8
 have bi := s.size
 have cp := s
 refine wQ 72 [(pt ak 0)] ([] : List SpS) zk (fun _ _ => rfl) (qQ ak ) d ((fun D A B h hc hd => zL h hc (fun h => Nat.not_lt.2 (hd _ h) af))) (by intro x; rfl) (fun K a0 A => ∃ (m : List SpS) (j : Value), (A.heap[ac]? = some (.cells [j, (.bool true)].toArray 136 (0, 0))) ∧ (A.heap[b5]? = some (.cells [(pt ac 0)].toArray 66 (0, 0))) ∧ (A.heap[ak]? = some (.cells [(.pointer none)].toArray 66 (0, 0))) ∧ (Row A w.heap.size 66 1 encPtr (.slice (some ⟨bn, 0, none⟩) 2 2) ([none, none] : List (Option Nat))) ∧ (∀ g, Value.ownBlock (.slice (some ⟨bn, 0, none⟩) 2 2) = some g → ¬ Iv z.heap.size K g) ∧ (Row A w.heap.size 138 3 encSpanS j m) ∧ (∀ g, Value.ownBlock j = some g → ¬ Iv z.heap.size K g) ∧ (Below w.heap.size w A) ∧ (m = layAll eqS [] a0) ∧ (RiseG 0 m)) (fun K c a0 A => False) ?_ ?_ ?_ ?_ ?_ ?_
 ·intro A hA
  have f := f.below a8
  exact ⟨[], (.slice none 0 0), zA b hA, zA i hA, zA d hA, f.below hA, qE f _, Row.nil _ _ _ _ _, nr_nil _ _, s.trans (hA.mono s.size), by rfl, by trivial⟩
 ·rintro K a0 A B ⟨m, j, b, i, d, f, p, a, n, s, r1, r2⟩ hc
  exact ⟨m, j, zL b hc (fun h => Nat.not_lt.2 h.1 av), zL i hc (fun h => Nat.not_lt.2 h.1 a4), zL d hc (fun h => Nat.not_lt.2 h.1 af), f.ch hc p, p, a.ch hc n, n, hc.below s s.size (fun k h => Nat.le_trans bi h.1), r1, r2⟩
 ·intro K c _ A B h hc; exact h.elim
 ·intro l K a0 x A hi hN cg hK bh
  obtain ⟨m, j, b, i, d, f, p, a, n, s, r1, r2⟩ := hi
  have hk := Kp.refl (z.heap.size) K A
  have ai : ¬ Iv (z.heap.size) K ac := fun h => Nat.not_lt.2 h.1 av
  have a6 : ¬ Iv (z.heap.size) K b5 := fun h => Nat.not_lt.2 h.1 a4
  have ap : ¬ Iv (z.heap.size) K ak := fun h => Nat.not_lt.2 h.1 af
  have d := hN
  have hx := cc.pre bh
  refine wR (zN [(I3 0), (I3 0)] 29 ?_)
  intro cj cv aa
  have bg := aa.ge s.size
  have ar : ¬ Iv z.heap.size K cj := fun h => by have := h.2; have := aa.num; omega
  replace hk := hk.ch (Ch.of_below aa.below) hK (fun _ h => h.elim)
  replace hK := Nat.le_trans hK (aa.below.size)
  have r := aa.here
  refine qC [(I3 x.1), (I3 x.2.1)] r ?_
  intro cr ah
  replace hk := hk.ch (Ch.of_wrote ah) hK (fun k e h => ar (e ▸ h))
  replace hK := Nat.le_trans hK (Nat.le_of_eq ah.size.symm)
  have b := zA b aa.below
  have b := zC b ah (zH b r zi)
  have i := zA i aa.below
  have i := zC i ah (zH i r zi)
  have d := zA d aa.below
  have d := zC d ah (zH d r zi)
  have f := f.below aa.below
  have f := f.wrote ah (f.ne r zi)
  have a := a.below aa.below
  have a := a.wrote ah (a.ne r zi)
  have r := ah.here
  refine nQ (zW (zI (zR (zB ⟨hk, ?_⟩))))
  intro ck aj
  have s := (s.tr aa.below).trans (ah.below bg)
  have s := aj.below s s.size (fun k h => Nat.le_trans bi h.1)
  replace hK := Nat.le_trans hK aj.size
  replace hk := Kp.refl (z.heap.size) K ck
  have b := zL b aj ai
  have i := zL i aj a6
  have r := zL r aj ar
  have a := a.ch aj n
  refine yC (zW (zO 0 i rfl (wG r (zG (zc (qY ac j m x.1 x.2.1 x.2.2 w.heap.size _ s.size b ae a (by first | exact s2 | exact r2 | trivial) (by first | omega | (simp; done)) (by first | omega | (simp; done))) ?_)))))
  rintro _ cw ⟨b0, rfl, b2, bw, b3, ax⟩
  have bj : ∀ k, Dm ac j k → ¬ Iv (z.heap.size) K k := fun k e => e.elim (fun x => by rw [x]; exact ai) (fun x => n k x)
  have ba : ∀ g, Value.ownBlock b0 = some g → ¬ Iv (z.heap.size) K g := fun g hg => (b3 g hg).elim (fun x y => by have := y.2; omega) (fun e => bj g e)
  replace hk := hk.ch ax hK bj
  replace hK := Nat.le_trans hK ax.size
  have s := ax.below s s.size (fun k e => e.elim (fun x => x ▸ ae) (fun x => (World.ownsRow.lt a k x).1))
  have i := yH i ax (zH i b zi) (a.ne i zi)
  have d := zL d aj ap
  have d := yH d ax (zH d b zi) (a.ne d zi)
  have f := f.ch aj p
  have f := f.ch_mut ax (f.ne b zi) (f.apart a zk)
  have b := b2
  refine zR (zS (yU hk d ⟨(layF eqS m x.1 x.2.1 x.2.2), b0, b, i, d, f, p, bw, ba, s, ?_, ?_⟩))
  ·rw [r1]; exact (wY _ _ _).symm
  exact wU r2
 ·intro K A hi cn q
  obtain ⟨m, j, b, i, d, f, p, a, n, s, r1, r2⟩ := hi
  refine zS (zS (zB (zW (vG 0 1 (zG (zR (xQ (wR (zr (.bool true) (nW (zT (zZ (zB (yA (yC (wR ?_))))))))))))))))
  have b4 : ([none, none] : List (Option Nat))[1]? = some (none) := rfl
  refine zE1 f.rd el203 1 b4 rfl fun _ => (zI (nR (zG (zc (vD  _ ) ?_))))
  rintro _ u ⟨a2, rfl, o, az, an⟩
  have be := Row.nb_ge f az
  replace az := Nat.le_trans s.size az
  refine nQ (yC ?_)
  have b := zA b an
  have aw : ac < u.heap.size := yD b
  have i := zA i an
  have a5 : b5 < u.heap.size := yD i
  have d := zA d an
  have ao : ak < u.heap.size := yD d
  have q := zA q an
  have am : z.heap.size < u.heap.size := yD q
  have ag : a2 < u.heap.size := yD o
  have s := s.tr an
  have bf := s.size
  have co := s
  refine wQ 72 [(pt a2 0)] ([] : List SpS) zk (fun _ _ => rfl) (qQ a2 ) o ((fun D A B h hc hd => zL h hc (fun h => Nat.not_lt.2 (hd _ h) ag))) (by intro x; rfl) (fun K a0 A => ∃ (mm : List SpS) (j : Value), (A.heap[ac]? = some (.cells [j, (.bool true)].toArray 136 (0, 0))) ∧ (A.heap[b5]? = some (.cells [(pt ac 0)].toArray 66 (0, 0))) ∧ (A.heap[ak]? = some (.cells [(.pointer none)].toArray 66 (0, 0))) ∧ (A.heap[z.heap.size]? = some (.deferred (some []))) ∧ (A.heap[a2]? = some (.cells [(.pointer none)].toArray 66 (0, 0))) ∧ (Row A w.heap.size 66 1 encPtr (.slice (some ⟨bn, 0, none⟩) 2 2) ([none, none] : List (Option Nat))) ∧ (∀ g, Value.ownBlock (.slice (some ⟨bn, 0, none⟩) 2 2) = some g → ¬ Iv u.heap.size K g) ∧ (Row A w.heap.size 138 3 encSpanS j mm) ∧ (∀ g, Value.ownBlock j = some g → ¬ Iv u.heap.size K g) ∧ (Below w.heap.size w A) ∧ (mm = layAll eqS (layAll eqS [] ([] : List SpS)) a0) ∧ (RiseG 0 mm)) (fun K c a0 A => False) ?_ ?_ ?_ ?_ ?_ ?_
  ·intro A hA
   have f := f.below an
   have a := a.below an
   exact ⟨m, j, zA b hA, zA i hA, zA d hA, zA q hA, zA o hA, f.below hA, qE f _, a.below hA, qE a _, s.trans (hA.mono s.size), by exact r1, by exact r2⟩
  ·rintro K a0 A B ⟨mm, j, b, i, d, q, o, f, p, a, n, s, s1, s2⟩ hc
   exact ⟨mm, j, zL b hc (fun h => Nat.not_lt.2 h.1 aw), zL i hc (fun h => Nat.not_lt.2 h.1 a5), zL d hc (fun h => Nat.not_lt.2 h.1 ao), zL q hc (fun h => Nat.not_lt.2 h.1 am), zL o hc (fun h => Nat.not_lt.2 h.1 ag), f.ch hc p, p, a.ch hc n, n, hc.below s s.size (fun k h => Nat.le_trans bf h.1), s1, s2⟩
  ·intro K c _ A B h hc; exact h.elim
  ·intro l K a0 x A hi hN cg hK bh
   obtain ⟨mm, j, b, i, d, q, o, f, p, a, n, s, s1, s2⟩ := hi
   have hk := Kp.refl (u.heap.size) K A
   have ai : ¬ Iv (u.heap.size) K ac := fun h => Nat.not_lt.2 h.1 aw
   have a6 : ¬ Iv (u.heap.size) K b5 := fun h => Nat.not_lt.2 h.1 a5
   have ap : ¬ Iv (u.heap.size) K ak := fun h => Nat.not_lt.2 h.1 ao
   have bs : ¬ Iv (u.heap.size) K z.heap.size := fun h => Nat.not_lt.2 h.1 am
   have bm : ¬ Iv (u.heap.size) K a2 := fun h => Nat.not_lt.2 h.1 ag
   have o := hN
   have hx := cd.pre bh
   refine wR (zN [(I3 0), (I3 0)] 29 ?_)
   intro cm cy t
   have bg := t.ge s.size
   have ar : ¬ Iv u.heap.size K cm := fun h => by have := h.2; have := t.num; omega
   replace hk := hk.ch (Ch.of_below t.below) hK (fun _ h => h.elim)
   replace hK := Nat.le_trans hK (t.below.size)
   have r := t.here
   refine qC [(I3 x.1), (I3 x.2.1)] r ?_
   intro cs ab
   replace hk := hk.ch (Ch.of_wrote ab) hK (fun k e h => ar (e ▸ h))
   replace hK := Nat.le_trans hK (Nat.le_of_eq ab.size.symm)
   have b := zA b t.below
   have b := zC b ab (zH b r zi)
   have i := zA i t.below
   have i := zC i ab (zH i r zi)
   have d := zA d t.below
   have d := zC d ab (zH d r zi)
   have q := zA q t.below
   have q := zC q ab (zH q r zi)
   have o := zA o t.below
   have o := zC o ab (zH o r zi)
   have f := f.below t.below
   have f := f.wrote ab (f.ne r zi)
   have a := a.below t.below
   have a := a.wrote ab (a.ne r zi)
   have r := ab.here
   refine nQ (zW (zI (zR (zB ⟨hk, ?_⟩))))
   intro cf ad
   have s := (s.tr t.below).trans (ab.below bg)
   have s := ad.below s s.size (fun k h => Nat.le_trans bf h.1)
   replace hK := Nat.le_trans hK ad.size
   replace hk := Kp.refl (u.heap.size) K cf
   have b := zL b ad ai
   have i := zL i ad a6
   have r := zL r ad ar
   have a := a.ch ad n
   refine yC (zW (zO 0 i rfl (wG r (zG (zc (qY ac j mm x.1 x.2.1 x.2.2 w.heap.size _ s.size b ae a (by first | exact s2 | exact r2 | trivial) (by first | omega | (simp; done)) (by first | omega | (simp; done))) ?_)))))
   rintro _ cx ⟨b1, rfl, b6, br, b9, al⟩
   have bj : ∀ k, Dm ac j k → ¬ Iv (u.heap.size) K k := fun k e => e.elim (fun x => by rw [x]; exact ai) (fun x => n k x)
   have bd : ∀ g, Value.ownBlock b1 = some g → ¬ Iv (u.heap.size) K g := fun g hg => (b9 g hg).elim (fun x y => by have := y.2; omega) (fun e => bj g e)
   replace hk := hk.ch al hK bj
   replace hK := Nat.le_trans hK al.size
   have s := al.below s s.size (fun k e => e.elim (fun x => x ▸ ae) (fun x => (World.ownsRow.lt a k x).1))
   have i := yH i al (zH i b zi) (a.ne i zi)
   have d := zL d ad ap
   have d := yH d al (zH d b zi) (a.ne d zi)
   have q := zL q ad bs
   have q := yH q al (zH q b zi) (a.ne q zi)
   have o := zL o ad bm
   have o := yH o al (zH o b zi) (a.ne o zi)
   have f := f.ch ad p
   have f := f.ch_mut al (f.ne b zi) (f.apart a zk)
   have b := b6
   refine zR (zS (yU hk o ⟨(layF eqS mm x.1 x.2.1 x.2.2), b1, b, i, d, q, o, f, p, br, bd, s, ?_, ?_⟩))
   ·rw [s1]; exact (wY _ _ _).symm
   exact wU s2
  ·intro K A hi cn bk
   obtain ⟨mm, j, b, i, d, q, o, f, p, a, n, s, s1, s2⟩ := hi
   have bb : NE z.heap.size (u.heap.size) := Nat.ne_of_lt am
   refine zS (zS (zB (zW (vG 1 1 (zG (zR (xQ (wR (zr (.bool false) (nW (zF (yZ (yE (yE (yP (zB (wR (zO 0 i rfl (zI (nQ (yB (wC (ds := [⟨.collected u.heap.size, #[]⟩, ⟨.collected z.heap.size, #[]⟩]) zk (xC bk ?_)))))))))))))))))))))))
   intro ct a7
   have b := zC b a7 (zH b bk zi)
   have a := a.wrote a7 (a.ne bk zi)
   have q := zC q a7 bb
   refine xC q ?_
   intro cu bl
   have b := zC b bl (zH b q zi)
   have a := a.wrote bl (a.ne q zi)
   refine wW [.tmp 4] [(pt ac 0)] rfl ⟨zk, trivial⟩ ?_
   have s := (s.trans (a7.below bf)).trans (bl.below bi)
   exact ⟨j, ac, rfl, a.cast (by first | exact s1 | rfl), b, ae, s⟩
  intro K c _ x A _ h; exact h.elim
 intro K c _ x A _ h; exact h.elim
end Go.Proofs.Ythjgnnfonofgkaa
end

/- === FKai === -/
section
/- FKai: a call walked in place; an iterator that hands its yield on to another one. My own text. -/
namespace Go.FK
open Go Go.RowKit
section
variable {r : Option Nat} {P : Program} {n : Nat} {Q : Post} {s : Fm} {w : World} {ops : Array Oper} {rest : List Oper}
variable {d : Option Tmp} {ty : TypeId} {pos : String} {af : Array Edge}
theorem qW {op : Op} (f : FuncId) (args : List Value) (hrun : (execOp (s.ev n) ⟨d, op, ty, pos, af, none⟩).run P w = .ok (.enter f args.toArray) w) (hd : notDefer op = true)
  (hc : Calls P f args.toArray w (Ret fun v w' => L r P n ops Q rest (s.put d v) w')) : L r P n ops Q (⟨d, op, ty, pos, af, none⟩ :: rest) s w :=
 L_call f args hrun hd hc (fun _ _ h => h)
end
def encVal (v : Value) : List Value := [v]
end Go.FK
end

/- === FKan === -/
section
/- FKan: a region that draws its order, of which the first a operations are taken already: those up to k only read and must all come before one that changes memory: they may be walked in the order of the text. As FKae, begun later. My own text. -/
namespace Go.FK
open Go Go.RowKit
def preOkE (ops : Array Oper) (a k : Nat) : Bool :=
  ((List.range k).all fun i => match ops[i]? with
    | some o => (o.after.all fun e => !Region.binds .any e || decide (e.on < i)) && (match o.guard with | none => true | some g => decide (g.1 < k))
    | none => false) &&
  ((List.range k).all fun i => decide (i < a) || (List.range (k + 1)).any fun j => decide (i < j) && (match ops[j]? with | some o => onB o i | none => false)) &&
  ((List.range ops.size).all fun j => decide (j ≤ k) || (match ops[j]? with | some o => o.after.any fun e => Region.binds .any e && decide (k ≤ e.on) | none => false))
section
variable {ops : Array Oper} {a k : Nat} {L : Array Bool}
theorem preE_back (h : preOkE ops a k = true) {i : Nat} (hi : i < k) : ∃ o, ops[i]? = some o ∧ (∀ e ∈ o.after, Region.binds .any e = true → e.on < i) ∧ (∀ g, o.guard = some g → g.1 < k) := by
 unfold preOkE at h
 simp only [Bool.and_eq_true, List.all_eq_true, List.mem_range] at h
 have b := h.1.1 i hi
 cases ho : ops[i]? with
 | none => rw [ho] at b; cases b
 | some o =>
  rw [ho] at b
  simp only [Bool.and_eq_true] at b
  refine ⟨o, rfl, fun e he hb => ?_, fun g hg => ?_⟩
  ·have := Array.all_eq_true'.1 b.1 e he
   simpa [hb] using this
  ·have c := b.2; rw [hg] at c; simpa using c
theorem preE_used (h : preOkE ops a k = true) {i : Nat} (hi : i < k) (ha : a ≤ i) : ∃ j o, i < j ∧ j ≤ k ∧ ops[j]? = some o ∧ ∃ e ∈ o.after, Region.binds .any e = true ∧ e.on = i := by
 unfold preOkE at h
 simp only [Bool.and_eq_true, List.all_eq_true, List.mem_range, List.any_eq_true, Bool.or_eq_true, decide_eq_true_eq] at h
 rcases h.1.2 i hi with d | ⟨j, hj, c, b⟩
 ·omega
 cases ho : ops[j]? with
 | none => rw [ho] at b; cases b
 | some o =>
  rw [ho] at b
  simp only [onB] at b
  obtain ⟨e, he, hb⟩ := Array.any_eq_true'.1 b
  simp only [Bool.and_eq_true] at hb
  exact ⟨j, o, by simpa using c, by omega, ho, e, he, hb.1, Nat.eq_of_beq_eq_true hb.2⟩
theorem preE_rest (h : preOkE ops a k = true) {j : Nat} (hj : k < j) {o : Oper} (ho : ops[j]? = some o) : ∃ e ∈ o.after, Region.binds .any e = true ∧ k ≤ e.on := by
 unfold preOkE at h
 simp only [Bool.and_eq_true, List.all_eq_true, List.mem_range] at h
 have hlt : j < ops.size := (Array.getElem?_eq_some_iff.1 ho).1
 have b := h.2 j hlt
 rw [ho] at b
 simp only [Bool.or_eq_true] at b
 rcases b with b | b
 ·have := of_decide_eq_true b; omega
 ·obtain ⟨e, he, hb⟩ := Array.any_eq_true'.1 b
  simp only [Bool.and_eq_true] at hb
  exact ⟨e, he, hb.1, of_decide_eq_true hb.2⟩
theorem preE_low (h : preOkE ops a k = true) (hI : PreI ops k L) (hA : ∀ i, i < a → L.getD i true = true) (hk : k ≤ ops.size) {i : Nat} (hi : i < k) (hu : L.getD i true = false) {j : Nat} (hj : j ∈ Region.ready .any ops L) : j < k := by
 rcases Nat.lt_or_ge j k with hlt | hge
 ·exact hlt
 exfalso
 obtain ⟨d, o, ho, hall⟩ := mem_ready.1 hj
 rcases Nat.lt_or_ge k j with hlt | hle
 ·obtain ⟨e, he, hb, hke⟩ := preE_rest h hlt ho
  have b := hall e he hb
  rcases Nat.lt_or_ge e.on ops.size with hs | hs
  ·rw [getD_tf (by rw [hI.size]; exact hs), hI.high _ hke hs] at b; cases b
  ·rw [Array.getD_eq_getD_getElem?, Array.getElem?_eq_none (by rw [hI.size]; exact hs)] at b; cases b
 ·obtain rfl : j = k := by omega
  have key : ∀ m i, j - i ≤ m → i < j → L.getD i true = true := by
   intro m
   induction m with
   | zero => intro i b c; omega
   | succ m ih =>
    intro i b c
    rcases Nat.lt_or_ge i a with hia | hia
    ·exact hA i hia
    obtain ⟨j', o', hij, hjk, ho', e, he, hb, heq⟩ := preE_used h c hia
    rw [← heq]
    rw [← getD_tf (by rw [hI.size]; omega)]
    rcases Nat.lt_or_ge j' j with hl | hg
    ·exact hI.down j' o' hl ho' (ih j' (by omega) hl) e he hb
    ·obtain rfl : j' = j := by omega
     rw [ho] at ho'; cases ho'
     exact hall e he hb
  have := key j i (by omega) hi
  rw [hu] at this; cases this
theorem preE_ready (h : preOkE ops a k = true) (hI : PreI ops k L) : ∀ i, i < k → L.getD i true = false → ∃ j, j < k ∧ j ∈ Region.ready .any ops L := by
 intro i
 induction i using Nat.strongRecOn with
 | ind i ih =>
  intro hi hu
  obtain ⟨o, ho, hb, _⟩ := preE_back h hi
  by_cases hx : ∃ m, m < i ∧ L.getD m true = false
  ·obtain ⟨m, hm, hmu⟩ := hx
   exact ih m hm (by omega) hmu
  ·refine ⟨i, hi, mem_ready.2 ⟨hu, o, ho, fun e he hbi => ?_⟩⟩
   have hlt := hb e he hbi
   have his : i < ops.size := (Array.getElem?_eq_some_iff.1 ho).1
   rw [getD_tf (by rw [hI.size]; omega)]
   cases hc : L.getD e.on true with
   | true => rfl
   | false => exact absurd ⟨_, hlt, hc⟩ hx
end
section
variable {P : Program} {n : Nat} {ops : Array Oper} {a k fuel : Nat} {C : World → Prop} {K : Act → Prop} {Q' : Exit → Act → World → Prop}
theorem pre_anyE (h : preOkE ops a k = true) (hk : k ≤ ops.size) (hd : noDefers ops = true)
  (H : ∀ a w, C w → K a → wpAnyIn (Fw none) 0 P .any ops Q' fuel (preL k ops.size) a w) : ∀ (m : Nat) (L : Array Bool) (b : Act) (w : World), PreI ops k L → (∀ i, i < a → L.getD i true = true) → unl L k = m → C w →
  wpAnyQ P .any (ops.toList.take k).toArray C K m L b → wpAnyIn (Fw none) 0 P .any ops Q' (m + fuel) L b w
 | 0, L, b, w, hI, hA, hu, hw, hq => by
  rw [Nat.zero_add, preL_eq hI hk hu]
  exact H b w hw hq.2
 | m + 1, L, b, w, hI, hA, hu, hw, hq => by
  obtain ⟨l, f, d⟩ := unl_some k (by omega : unl L k ≠ 0)
  rw [show m + 1 + fuel = m + fuel + 1 by omega]
  refine ⟨fun he => ?_, fun i hi => ?_⟩
  ·obtain ⟨j, _, hj⟩ := preE_ready h hI l f d
   rw [he] at hj; cases hj
  ·have hik := preE_low h hI hA hk f d hi
   have c := hq.2 i ((ready_take hI hk hik).1 hi)
   obtain ⟨o, ho, _, hg⟩ := preE_back h hik
   have hs : i < L.size := by rw [hI.size]; omega
   have hun := (mem_ready.1 hi).1
   have hset := unl_set hs hun k hik
   have g : qOp P ops C i (wpAnyQ P .any (ops.toList.take k).toArray C K m (L.setIfInBounds i true)) b := by
    unfold qOp at c ⊢
    rw [take_atE hik, ho] at c
    rw [ho]
    simp only at c ⊢
    rw [wanted_take hg] at c
    exact c
   exact opIn_quiet hd hw (fun a' w' hw' hK => pre_anyE h hk hd H m _ a' w' (hI.set hik hi) (fun q hq => by rw [getD_set_ne true (fun e => by subst e; rw [hA _ hq] at hun; cases hun)]; exact hA q hq) (by omega) hw' hK) g
theorem getD_preL {a N i : Nat} (hi : i < N) : (preL a N).getD i true = decide (i < a) := by simp [preL, hi]
theorem unl_preL {a N : Nat} : ∀ k, k ≤ N → a ≤ k → unl (preL a N) k = k - a
 | 0, _, h => by unfold unl; omega
 | k + 1, hk, ha => by
  unfold unl
  rw [getD_preL (by omega)]
  rcases Nat.lt_or_ge k a with h | h
  ·obtain rfl : a = k + 1 := by omega
   have : ∀ m, m ≤ k → unl (preL (k + 1) N) m = 0 := by
    intro m
    induction m with
    | zero => intro _; rfl
    | succ m ih => intro hm; unfold unl; rw [getD_preL (by omega), ih (by omega)]; simp; omega
   rw [this k (Nat.le_refl _)]; simp
  ·rw [unl_preL k (by omega) h]; simp [Nat.not_lt.2 h]; omega
end
section
variable {P : Program} {n : Nat} {Q : Post} {s : Fm} {w : World}
theorem I_pre {l : List Oper} {L : Array Bool} {fuel : Nat} (a k N m : Nat) (hN : Nat.beq l.length N = true) (hL : preL a N = L) (hf : Nat.beq (k - a + m) fuel = true) (hak : Nat.ble a k = true) (hd : noDefers l.toArray = true) (hp : preOkE l.toArray a k = true)
  (hs : Region.noSelect (l.take k).toArray = true) (hB : Region.lexFrom .any (l.take k).toArray (k - a) a L = true) (hk : Nat.beq (k + m) N = true)
  (h : Lq P n (l.take k).toArray w (fun s' => ∀ w', Below w.heap.size w w' → Li P n l.toArray Q m (preL k N) s' w') ((l.take k).drop a) s) : Li P n l.toArray Q fuel L s w := by
 obtain rfl := Nat.eq_of_beq_eq_true hN
 obtain rfl := Nat.eq_of_beq_eq_true hf
 subst hL
 have hk := Nat.eq_of_beq_eq_true hk
 have hak := Nat.le_of_ble_eq_true hak
 have hl : (l.take k).length = k := by rw [List.length_take]; omega
 have c : ((l.take k).drop a).length = k - a := by rw [List.length_drop, hl]
 have hI : PreI l.toArray k (preL a l.length) := by
  refine ⟨by simp [preL], fun j hj hs => by rw [getD_preL (by simpa using hs)]; exact decide_eq_false (by omega), fun i o hi ho hl e he hb => ?_⟩
  have his : i < l.length := by have := (Array.getElem?_eq_some_iff.1 ho).1; simpa using this
  rw [getD_preL his] at hl
  obtain ⟨q, b, f, _⟩ := preE_back hp hi
  rw [ho] at b; cases b
  have t := f e he hb
  have r := of_decide_eq_true hl
  rw [getD_tf (by simp [preL]; omega), getD_preL (by omega)]
  exact decide_eq_true (by omega)
 have key := pre_anyE (P := P) (Q' := upQ n Q) (C := fun w' => Below w.heap.size w w') (K := fun a => ∃ s, a = Fm.act n s ∧ ∀ w', Below w.heap.size w w' → Li P n l.toArray Q m (preL k l.length) s w') (fuel := m) hp (by simp; omega) hd (by
  rintro a p d ⟨u, rfl, hK⟩
  have := hK p d
  unfold Li at this
  simpa using this) (k - a) (preL a l.length) (s.act n) w hI (fun i hi => by rw [getD_preL (by omega)]; exact decide_eq_true hi) (unl_preL k (by omega) hak) (Below.refl _ _) ?_
 ·unfold Li
  exact key
 ·unfold Lq at h
  have g := wpAnyQ_lex (md := .any) hs ((l.take k).drop a) a (preL a l.length) (s.act n) (fun j => by rw [List.getElem?_drop]; simp) (by rw [c]; exact hB) h
  rw [c] at g
  simpa using g
end
theorem flat_drop {α : Type} {enc : α → List Value} {k : Nat} (hk : ∀ x, (enc x).length = k) : ∀ (m : Nat) (xs : List α), (xs.drop m).flatMap enc = (xs.flatMap enc).drop (m * k)
 | 0, xs => by simp
 | m + 1, [] => by simp
 | m + 1, x :: xs => by
  rw [List.drop_succ_cons, flat_drop hk m xs, List.flatMap_cons, Nat.succ_mul, Nat.add_comm (m * k) k, ← List.drop_drop]
  congr 1
  rw [← hk x, List.drop_left]
section
variable {r : Option Nat} {P : Program} {n : Nat} {ops : Array Oper} {Q : Post} {rest : List Oper} {s : Fm} {w : World} {d : Option Tmp} {ty : TypeId} {pos : String} {af : Array Edge}
theorem L_slfromV {α : Type} {X lo : Operand} {T E k bytes B : Nat} {enc : α → List Value} (he : Elem P T E k bytes) (v : Value) (xs : List α) (m : Nat) (hrow : Row w B E k enc v xs) (hk : ∀ x, (enc x).length = k) (hm : m ≤ xs.length)
  (hX : s.ev n X = v) (hlo : ∃ kk, s.ev n lo = .int kk m)
  (h : ∀ v', Rd w enc v' (xs.drop m) → L r P n ops Q rest (s.put d v') w) : L r P n ops Q (⟨d, .slice T X (some lo) none none, ty, pos, af, none⟩ :: rest) s w := by
 refine L_slfrom he v xs.length m hrow.shape hm hX hlo fun v' ht => h v' ?_
 have hl : (xs.drop m).length = xs.length - m := List.length_drop
 obtain ⟨a, c, hv, hr⟩ := hrow.rd
 rcases ht with ⟨p, i, e⟩ | ⟨g, cap, i, e⟩
 ·exact ⟨none, 0, by rw [e, hl, p]; simp, .inl (by omega)⟩
 ·refine ⟨_, _, by rw [e, hl], ?_⟩
  rcases Nat.eq_zero_or_pos (xs.length - m) with o | o
  ·left; omega
  ·right
   have hc : cap ≠ m := by
    rcases hrow.shape with ⟨b, f⟩ | ⟨q, l, b, f⟩
    ·omega
    ·rw [i] at b; cases b; omega
   rw [if_neg hc]
   rcases hr with hr | ⟨q, off, b, f⟩
   ·omega
   ·rw [i] at hv
    injection hv with h8 h9 h10
    rw [b] at h8
    injection h8 with h8
    injection h8 with h11 h12
    subst h11 h12
    refine ⟨g, m * k, rfl, fun j u hu => ?_⟩
    rw [flat_drop hk, List.getElem?_drop] at hu
    have := f _ u hu
    rw [Nat.zero_add] at this; exact this
end
end Go.FK
end

/- === FKat === -/
section
/- FKat: min and max where order is free; slices that are only read, over changes elsewhere. My own text. -/
namespace Go.FK
open Go Go.RowKit
section ops
variable {P : Program} {n : Nat} {ops : Array Oper} {w : World} {K : Fm → Prop} {rest : List Oper} {s : Fm}
variable {d : Option Tmp} {ty : TypeId} {pos : String} {af : Array Edge}
theorem Lq_min {X Y : Operand} {ats : Array TypeId} {k : IntKind} (x y : Int) (hx : s.ev n X = .int k x) (hy : s.ev n Y = .int k y) (h : Lq P n ops w K rest (s.put d (.int k (min x y)))) :
  Lq P n ops w K (⟨d, .call ⟨.builtin .min, #[X, Y], ats⟩, ty, pos, af, none⟩ :: rest) s := by
 refine qS _ (fun w _ => ?_) h
 have e : (if y < x then y else x) = min x y := by omega
 simp [execOp, resolve, invoke, builtin, Builtin.min_, Builtin.min2, hx, hy, Sem.run_pure, Sem.run_bind, e]
theorem Lq_max {X Y : Operand} {ats : Array TypeId} {k : IntKind} (x y : Int) (hx : s.ev n X = .int k x) (hy : s.ev n Y = .int k y) (h : Lq P n ops w K rest (s.put d (.int k (max x y)))) :
  Lq P n ops w K (⟨d, .call ⟨.builtin .max, #[X, Y], ats⟩, ty, pos, af, none⟩ :: rest) s := by
 refine qS _ (fun w _ => ?_) h
 have e : (if y > x then y else x) = max x y := by omega
 simp [execOp, resolve, invoke, builtin, Builtin.max_, Builtin.max2, hx, hy, Sem.run_pure, Sem.run_bind, e]
end ops
theorem Rd.apart {α : Type} {w w' : World} {D : Nat → Prop} {enc : α → List Value} {v : Value} {xs : List α} (h : Rd w enc v xs) (hc : Ch D w w') (na : ∀ a m c, v = .slice (some a) m c → ¬ D a.block) : Rd w' enc v xs := by
 obtain ⟨a, c, hv, h⟩ := h
 refine ⟨a, c, hv, h.imp id ?_⟩
 rintro ⟨g, off, rfl, hu⟩
 refine ⟨g, off, rfl, fun j u hj => ?_⟩
 have b := hu j u hj
 have hn := na _ _ _ hv
 unfold World.cell? at *
 cases hg : w.heap[g]? with
 | none => rw [hg] at b; cases b
 | some o => rw [zL hg hc hn]; rw [hg] at b; exact b
theorem lies_ne {α : Type} {w : World} {B E k : Nat} {enc : α → List Value} {v : Value} {xs : List α} {g off m b : Nat} (hl : Lies v g off m) (hr : Row w B E k enc v xs) (hn : v.ownBlock ≠ some b) : ¬ g = b := by
 obtain ⟨c, hv⟩ := hl
 rcases wN hr with e | ⟨g', cap, cur, e, hh⟩
 ·rw [e] at hv; cases hv
 ·rw [e] at hv hn; cases hv
  intro e; subst e; exact hn rfl
def Rx {α : Type} (w : World) (B E k : Nat) (enc : α → List Value) (v : Value) (xs : List α) : Prop :=
  Rd w enc v xs ∧ ∀ a n c, v = .slice (some a) n c → ∃ cur, w.heap[a.block]? = some (.cells cur E (0, 0))
section rx
variable {α β : Type} {w w' : World} {B B' E E' k k' b : Nat} {enc : α → List Value} {enc' : β → List Value} {v v' : Value} {xs ys : List α} {zs : List β} {o : Obj} {D : Nat → Prop}
theorem Rx.rd (h : Rx w B E k enc v xs) : Rd w enc v xs := h.1
theorem Rx.one (h : Rx w B E k enc v xs) : v.oneCell' = true := by obtain ⟨a, c, e⟩ := h.1.len; rw [e]; rfl
theorem Rx.nil (w : World) (B E k : Nat) (enc : α → List Value) : Rx w B E k enc (.slice none 0 0) [] := ⟨Rd.nil w enc, fun _ _ _ e => by cases e⟩
theorem Rx.base (h : Rx w B E k enc v xs) (_ : B' ≤ B) : Rx w B' E k enc v xs := h
theorem Rx.cast (h : Rx w B E k enc v xs) (e : xs = ys) : Rx w B E k enc v ys := e ▸ h
theorem Rx.below (h : Rx w B E k enc v xs) (hb : Below w.heap.size w w') : Rx w' B E k enc v xs :=
 ⟨h.1.below hb, fun a n c e => (h.2 a n c e).imp fun _ hh => zA hh hb⟩
theorem Rx.ch (h : Rx w B E k enc v xs) (hc : Ch D w w') (na : ∀ a m c, v = .slice (some a) m c → ¬ D a.block) : Rx w' B E k enc v xs :=
 ⟨h.1.apart hc na, fun a n c e => (h.2 a n c e).imp fun _ hh => zL hh hc (na a n c e)⟩
theorem Rx.ne (h : Rx w B E k enc v xs) (hb : w.heap[b]? = some o) (ho : ∀ cur, o ≠ .cells cur E (0, 0)) : ∀ a m c, v = .slice (some a) m c → a.block ≠ b := fun a m c e e2 => by
 obtain ⟨cur, hh⟩ := h.2 a m c e
 rw [e2, hb] at hh
 exact ho cur (Option.some.inj hh)
theorem Rx.apart (h : Rx w B E k enc v xs) (r : Row w B' E' k' enc' v' zs) (hE : Nat.beq E E' = false) : ∀ a m c, v = .slice (some a) m c → v'.ownBlock ≠ some a.block := fun a m c e e2 => by
 obtain ⟨cur, hh⟩ := h.2 a m c e
 rcases wN r with rfl | ⟨g, cap, cur', rfl, hg⟩
 ·simp [Value.ownBlock] at e2
 ·have b : g = a.block := by simpa [Value.ownBlock] using e2
  rw [b, hh] at hg
  have := Option.some.inj hg
  injection this with _ h2 _
  subst h2; rw [Nat.beq_refl] at hE; cases hE
theorem Rx.wrote (h : Rx w B E k enc v xs) (hw : Wrote w w' b o) (na : ∀ a m c, v = .slice (some a) m c → a.block ≠ b) : Rx w' B E k enc v xs := h.ch (Ch.of_wrote hw) na
theorem Rx.ch_mut {vm : Value} (h : Rx w B E k enc v xs) (hc : Ch (Dm b vm) w w') (h1 : ∀ a m c, v = .slice (some a) m c → a.block ≠ b) (h2 : ∀ a m c, v = .slice (some a) m c → vm.ownBlock ≠ some a.block) : Rx w' B E k enc v xs :=
 h.ch hc (fun a m c e d => d.elim (fun x => h1 a m c e x) (fun x => h2 a m c e x))
theorem Row.rx (h : Row w B E k enc v xs) : Rx w B E k enc v xs := ⟨h.rd, fun a n c e => by
 rcases wN h with rfl | ⟨g, cap, cur, rfl, hg⟩
 ·cases e
 ·cases e; exact ⟨cur, hg⟩⟩
end rx
end Go.FK
end

/- === PStp === -/
section
/- PStp: a step of chapter 4's scripts; what a map answers at each code point that is asked for. My own text. -/
namespace Go.FK
open Go Go.RowKit
abbrev StepV := Int × Int × Int × Int × Int × Rg × List UInt8
def encStep (x : StepV) : List Value := [.int .i64 x.1, .int .i64 x.2.1, .int .i64 x.2.2.1, .int .i64 x.2.2.2.1, .int .i64 x.2.2.2.2.1, .int .i32 x.2.2.2.2.2.1.1, .int .i32 x.2.2.2.2.2.1.2, S x.2.2.2.2.2.2]
theorem set_here {α : Type} {l : List α} {i : Nat} {x y : α} (h : l[i]? = some x) : (l.set i y)[i]? = some y := by
 rw [List.getElem?_set_self (List.getElem?_eq_some_iff.1 h).1]
section
variable {m : List SpI} {look val : List Int} {has : List Bool} {k : Nat} {x v : Int} {b : Bool}
end
end Go.FK
end

/- === Wgpr === -/
section
/- Walks, written by my program walk.py out of the specification gpr.py: each theorem says what one function returns and that it leaves memory as it was. -/
namespace Go.Proofs.Ythjgnnfonofgkaa
open Go Go.RowKit Go.FK
set_option maxHeartbeats 4000000
set_option maxRecDepth 100000
theorem eqin29_183 (d : Nat) (a0 : Int) (a1 : Int) (c0 : Int) (c1 : Int) (w : World) : (Op.equalIn (d + 2) 29 (.agg #[.int .i32 a0, .int .i32 a1]) (.agg #[.int .i32 c0, .int .i32 c1])).run Try.prog w = .ok (a0 == c0 && a1 == c1) w := by
 have g : Try.prog.underlying 29 = some (.struct (Try.prog.fieldsOf 29)) := by kernel_rfl
 have e : Try.prog.stoodInHeld 29 = false := by kernel_rfl
 rw [run_equalIn_agg w (d + 1) 29 _ _ g e]
 simp only [Program.fieldsOf, Try.underlying29]
 have c := Try.isAgg21
 have b := Try.sizeOf21
 have a := Try.underlying21
 go_simp
 by_cases f : a0 = c0 <;> by_cases h : a1 = c1 <;> simp [f, h]
theorem eqagg183 (a0 : Int) (a1 : Int) (a2 : List UInt8) (a3 : Bool) (c0 : Int) (c1 : Int) (c2 : List UInt8) (c3 : Bool) (w : World) : (Op.equalIn 10000 183 (.agg #[.int .i32 a0, .int .i32 a1, S a2, .bool a3]) (.agg #[.int .i32 c0, .int .i32 c1, S c2, .bool c3])).run Try.prog w = .ok (a0 == c0 && a1 == c1 && a2 == c2 && a3 == c3) w := by
 have n : Try.prog.underlying 183 = some (.struct (Try.prog.fieldsOf 183)) := by kernel_rfl
 have l : Try.prog.stoodInHeld 183 = false := by kernel_rfl
 have i : ∀ w, (Op.equalIn 9999 29 (.agg #[.int .i32 a0, .int .i32 a1]) (.agg #[.int .i32 c0, .int .i32 c1])).run Try.prog w = .ok (a0 == c0 && a1 == c1) w := fun w => eqin29_183 9997 a0 a1 c0 c1 w
 have j : ∀ w (a b : List UInt8), (Op.equalIn 9999 9 (S a) (S b)).run Try.prog w = .ok (a == b) w := fun w a b => by unfold S; rw [run_equalIn_string w 9998 9 _ _ Try.underlying9, toList_mk, toList_mk]
 have k : ∀ w a b, (Op.equalIn 9999 4 (.bool a) (.bool b)).run Try.prog w = .ok (a == b) w := fun w a b => run_equalIn_bool' w 9998 4 a b Try.underlying4
 rw [show (10000 : Nat) = 9999 + 1 from rfl, run_equalIn_agg w 9999 183 _ _ n l]
 simp only [Program.fieldsOf, Try.underlying183]
 have h := Try.isAgg4
 have f := Try.sizeOf4
 have g := Try.isAgg9
 have d := Try.sizeOf9
 have e := Try.isAgg29
 have c := Try.sizeOf29
 simp [Op.eqFields, part, Sem.run_bind, Sem.run_ite, Result.andThen_ok, h, f, k, g, d, j, e, c, i]
 by_cases m : a0 = c0 <;> by_cases q : a1 = c1 <;> by_cases o : a2 = c2 <;> by_cases p : a3 = c3 <;> simp [m, q, o, p]
theorem el82 : Elem Try.prog 82 187 4 32 := ⟨Try.underlying82, zk, rfl⟩
theorem xK : Elem Try.prog 147 183 4 32 := ⟨Try.underlying147, zk, rfl⟩
theorem qG : Elem Try.prog 40 21 1 4 := ⟨Try.underlying40, zk, rfl⟩
theorem el210 : Elem Try.prog 210 82 1 24 := ⟨Try.underlying210, zk, rfl⟩
theorem c_atD (b : Value) (ds : List (Int × Int × List UInt8 × Bool)) (x : Int) (w : World) (a : Rd w encD b ds) (hln : ds.length ≤ 1073741824) :
  Calls Try.prog 114 #[b, (I3 x)] w (Ret fun v w' => v = (.tuple #[(S ((atD ds x).1)), (.bool ((atD ds x).2))]) ∧ Below w.heap.size w w') := by
 refine wL 43 Try.func114 rfl ?_
 have h := Below.refl w.heap.size w
 refine wR (zI (zI (nW (wR (zG (vI Try.underlying82 (a).len (xL (((ds).length : Nat) : Int) 1 ((((ds).length : Nat) : Int) - 1) rfl zk zk (xH _ zh zh) (zI (nQ (yC (wH (fun m s0 w0 => ∃ (z : Int), (m = (z + 1).toNat) ∧ (s0.ds = []) ∧ ([0, 1, 6].map s0.f = [b, (I3 x), (I6 z)]) ∧ (Rd w0 encD b ds) ∧ (Below w.heap.size w w0) ∧ (-1 ≤ z ∧ z < ds.length) ∧ (noD ds x (z + 1).toNat)) _ ⟨((((ds).length : Nat) : Int) - 1), rfl, zk, zk, a, h, zo, (by rw [show ((ds.length : Int) - 1 + 1).toNat = ds.length by omega]; exact noD_end ds x)⟩ ?_)))))))))))
 rintro m1 s2 w3 ⟨z, hm, i, ah, a, h, i1, p⟩
 refine wF ah (yA (wR (zG (zGe .i64 z 0 ?_ ?_))))
 ·intro h4
  refine nQ (zT (zZ (zB (yA (yC (wR (zG (zG (zG ?_)))))))))
  have j := yN ds z.toNat zo; obtain ⟨l, n⟩ := j
  have j := (a).at (k := 4) zj n
  obtain ⟨g7, g, ag, y⟩ := j
  refine L_ixaddrZ (k := .i64) b z z.toNat _ g7 g zo el82 ag zo zk zk (zr (pt g7 (g + z.toNat * 4)) (zr (pt g7 (g + z.toNat * 4)) (yK g7 (g + z.toNat * 4) (I3 l.1) zk zk (y 0 _ rfl) (zGe .i32 x l.1 ?_ ?_))))
  ·intro ai
   refine zG (zw (zG (zw (zG (zw (zG (zw ?_)))))))
   have j := (a).at (k := 4) zj n
   obtain ⟨o, c, ad, t⟩ := j
   refine L_ixaddrZ (k := .i64) b z z.toNat _ o c zo el82 ad zo zk zk (zw (zr (pt o (c + z.toNat * 4)) (zw (zr (pt o ((c + z.toNat * 4) + 1)) (zw (yK o ((c + z.toNat * 4) + 1) (I3 l.2.1) zk zk (t 1 _ rfl) (zw (zLe .i32 x l.2.1 ?_ ?_))))))))
   ·intro am
    refine xN (nQ (zT (yA (yV zk zk (zY (zY ?_))))))
    have j := (a).at (k := 4) zj n
    obtain ⟨r, e, aa, ab⟩ := j
    refine Lq_ixaddrZ (k := .i64) b z z.toNat _ r e zo el82 aa zo zk zk (zV (pt r ((e + z.toNat * 4) + 2)) zf (zX r ((e + z.toNat * 4) + 2) (S l.2.2.1) zk zf (ab 2 _ rfl) (zY (zY ?_))))
    have j := (a).at (k := 4) zj n
    obtain ⟨q, d, ae, u⟩ := j
    refine Lq_ixaddrZ (k := .i64) b z z.toNat _ q d zo el82 ae zo zk zk (zV (pt q ((d + z.toNat * 4) + 3)) zf (zX q ((d + z.toNat * 4) + 3) (.bool l.2.2.2) zk zf (u 3 _ rfl) (Lq_put_split l.2.2.2 ?_ ?_)))
    ·intro ap
     refine Lq_not true zk (xA (xA (yM ?_)))
     intro ao ac
     replace h := h.tr ac
     exact zB (yB (yG (zP (zP (yG (zP (yJ [(S l.2.2.1), (.bool false)] (hd := i) ⟨qP (congrArg S (by (rw [atD_hit (k := z.toNat) (by rw [show z.toNat + 1 = (z + 1).toNat by omega]; exact p) za zo zo]; done))) (eb (by (rw [atD_hit (k := z.toNat) (by rw [show z.toNat + 1 = (z + 1).toNat by omega]; exact p) za zo zo]; simp_all; done))), h⟩)))))))
    intro al
    refine Lq_not false zk (xA (xA (yM ?_)))
    intro ak s
    replace h := h.tr s
    exact zB (yB (yG (zP (zP (yG (zP (yJ [(S l.2.2.1), (.bool true)] (hd := i) ⟨qP (congrArg S (by (rw [atD_hit (k := z.toNat) (by rw [show z.toNat + 1 = (z + 1).toNat by omega]; exact p) za zo zo]; done))) (eb (by (rw [atD_hit (k := z.toNat) (by rw [show z.toNat + 1 = (z + 1).toNat by omega]; exact p) za zo zo]; simp_all; done))), h⟩)))))))
   intro aq
   refine xN (nQ (zF (zZ (zS (zB (zW (zG (xL z 1 (z - 1) rfl zk zk (xH _ zh zh) (zI (zR (zB ⟨_, zo, (z - 1), rfl, i, zk, a, h, zo, ?_⟩)))))))))))
   rw [show (z - 1 + 1).toNat = z.toNat by omega]; exact noD_step (by rw [show z.toNat + 1 = (z + 1).toNat by omega]; exact p) za zo
  intro an
  refine zG (zs (zs (zs (zs (zs (zs (zs (zs (zpF (nQ (zF (zZ (zS (zB (zW (zG (xL z 1 (z - 1) rfl zk zk (xH _ zh zh) (zI (zR (zB ⟨_, zo, (z - 1), rfl, i, zk, a, h, zo, ?_⟩))))))))))))))))))))
  rw [show (z - 1 + 1).toNat = z.toNat by omega]; exact noD_step (by rw [show z.toNat + 1 = (z + 1).toNat by omega]; exact p) za zo
 intro aj
 exact nQ (zF (yZ (yE (yE (yP (zB (wR (zI (zI (nQ (yB (yJ [(S []), (.bool false)] (hd := i) ⟨qP (congrArg S (by (rw [atD_none (by rw [show (0 : Nat) = (z + 1).toNat by omega]; exact p)]; done))) (eb (by (rw [atD_none (by rw [show (0 : Nat) = (z + 1).toNat by omega]; exact p)]; done))), h⟩))))))))))))
theorem c_addF {B_ : Nat} (o : Value) (l : List (Int)) (x : Int) (w : World) (hB_ : B_ ≤ w.heap.size) (i : Row w B_ 21 1 encI32 o l) (hl : l.length ≤ 1073741824) :
  Calls Try.prog 148 #[o, (I3 x)] w (Ret fun v w' => ∃ q0 : Value, v = q0 ∧ Row w' B_ 21 1 encI32 q0 (addF l x) ∧ (∀ g, Value.ownBlock q0 = some g → w.heap.size ≤ g ∨ Value.ownBlock o = some g) ∧ Below w.heap.size w w') := by
 refine wL 48 Try.func148 rfl ?_
 have n := Below.refl w.heap.size w
 refine wR (zI (nR (zI (nW (yC (wH (fun m s0 w0 => ∃ (a : Nat), (m = l.length - a) ∧ (s0.ds = []) ∧ ([0, 1, 4, 5].map s0.f = [o, (I3 x), (.slice none 0 0), (N6 a)]) ∧ (Row w0 B_ 21 1 encI32 o l) ∧ (Below w.heap.size w w0) ∧ (a ≤ l.length) ∧ (addI l x a)) _ ⟨0, rfl, zk, zk, i, n, (Nat.zero_le _), (addI_zero _ _)⟩ ?_))))))
 rintro m1 s2 w3 ⟨a, hm, p, b8, i, n, a1, a3⟩
 refine wF b8 (yA (wR (zG (zG (vI Try.underlying40 (i.rd).len (nLt a ((l).length) ?_ ?_))))))
 ·intro h4
  refine zG (zw (zG (zw (zG (zw ?_)))))
  have t := yN l a zo; obtain ⟨x5, bc⟩ := t
  have t := (i.rd).at (k := 1) zj bc
  obtain ⟨g7, aa, ce, bn⟩ := t
  refine xO (k := .i64) o a _ g7 aa qG ce zo zk zk (zw (yK g7 (aa + a * 1) (I3 x5) zk zk (bn 0 _ rfl) (zw (zG (zw (zLt .i32 x5 x ?_ ?_))))))
  ·intro ck
   refine xN (nQ (zT (zZ (zB (yC (zW (zG (vG a 1 (zI (zR (zS (zB ⟨_, zo, (a + 1), rfl, p, zk, i, n, zo, ?_⟩))))))))))))
   exact addI_step a3 za zo
  intro c5
  refine xN (nQ (zF (yZ (yE (yE (yP (zB (yA (wR (zG (zG (vI Try.underlying40 (i.rd).len (nLt a ((l).length) ?_ ?_)))))))))))))
  ·intro cw
   refine zG (zw (zG (zw (zG (zw ?_)))))
   have t := (i.rd).at (k := 1) zj bc
   obtain ⟨br, s, bu, bv⟩ := t
   refine xO (k := .i64) o a _ br s qG bu zo zk zk (zw (yK br (s + a * 1) (I3 x5) zk zk (bv 0 _ rfl) (zw (zG (zw (zEq .i32 x5 x ?_ ?_))))))
   ·intro cr
    exact xN (nQ (zT (wR (zG (zI (nQ (yB (zP (yJ [o] (hd := p) ⟨_, rfl, i.cast (by exact (addF_old a3 za zo).symm), fun g e => .inr e, n⟩)))))))))
   intro c3
   refine xN (nQ (zF (zZ (zB (wR (zI (nR (zG (zG (zG (L_slto qG o l a i zj zo zk ⟨.i64, zk⟩ ?_)))))))))))
   intro b0 aq
   refine xV qG w.heap.size (.slice none 0 0) b0 ([] : List (Int)) (List.take a l) n.size (Row.nil _ w.heap.size 21 1 encI32) aq (by (simp only [List.length_append, List.length_take, List.length_drop, List.length_cons, List.length_nil, List.length_set] <;> omega)) zj zj zk zk zk ?_
   intro cd cz bj ag ak 
   have c := xR i ak (qD _)
   have n := n.grown ag n.size (fun k hk => by simp [Value.ownBlock] at hk)
   have i := i.grown ag (by cases h : Value.ownBlock _ <;> simp [Value.ownBlock])
   have b := c
   have j := yW c
   have d := bj
   refine zI (nR (zG (zG (L_app qG w.heap.size cd (([] : List (Int)) ++ (List.take a l)) x n.size d (by (simp only [List.length_append, List.length_take, List.length_drop, List.length_cons, List.length_nil, List.length_set] <;> omega)) zk rfl rfl zk rfl zk zk ?_))))
   intro b5 c1 bg ae a4
   have c := vA i a4 b
   have n := n.tg n.size ae d
   have i := i.grown ae b
   have b := c; have j := yW c
   have d := bg
   refine zI (nR (zG (zG (zG (L_slfromV qG o l a i zj zo zk ⟨.i64, zk⟩ ?_)))))
   intro ca al
   refine xV qG w.heap.size b5 ca ((([] : List (Int)) ++ (List.take a l)) ++ [x]) (List.drop a l) n.size d al (by (simp only [List.length_append, List.length_take, List.length_drop, List.length_cons, List.length_nil, List.length_set] <;> omega)) zj zj zk zk zk ?_
   intro b2 cl bb bh am 
   have c := xR i am b
   have n := n.tg n.size bh d
   have d := bb
   exact zI (nQ (yB (yJ [b2] (hd := p) ⟨_, rfl, (d.base hB_).cast (by exact (addF_new a3 za zo zo).symm), fun g e => .inl (World.ownsRow.lt d g e).1, n⟩)))
  intro cu
  refine zG (zs (zs (zs (zs (zs (zs (zpF (nQ (zF (zZ (zB (wR (zI (nR (zG (zG (zG (L_slto qG o l a i zj zo zk ⟨.i64, zk⟩ ?_))))))))))))))))))
  intro cg ap
  refine xV qG w.heap.size (.slice none 0 0) cg ([] : List (Int)) (List.take a l) n.size (Row.nil _ w.heap.size 21 1 encI32) ap zo zj zj zk zk zk ?_
  intro b3 ct bm ac a5 
  have c := xR i a5 (qD _)
  have n := n.grown ac n.size (fun k hk => by simp [Value.ownBlock] at hk)
  have i := i.grown ac (by cases h : Value.ownBlock _ <;> simp [Value.ownBlock])
  have b := c
  have j := yW c
  have d := bm
  refine zI (nR (zG (zG (L_app qG w.heap.size b3 (([] : List (Int)) ++ (List.take a l)) x n.size d zo zk rfl rfl zk rfl zk zk ?_))))
  intro cf cs ba ad au
  have c := vA i au b
  have n := n.tg n.size ad d
  have i := i.grown ad b
  have b := c; have j := yW c
  have d := ba
  refine zI (nR (zG (zG (zG (L_slfromV qG o l a i zj zo zk ⟨.i64, zk⟩ ?_)))))
  intro ch az
  refine xV qG w.heap.size cf ch ((([] : List (Int)) ++ (List.take a l)) ++ [x]) (List.drop a l) n.size d az zo zj zj zk zk zk ?_
  intro cc cx bo bp a2 
  have c := xR i a2 b
  have n := n.tg n.size bp d
  have d := bo
  exact zI (nQ (yB (yJ [cc] (hd := p) ⟨_, rfl, (d.base hB_).cast (by exact (addF_new a3 za zo zo).symm), fun g e => .inl (World.ownsRow.lt d g e).1, n⟩)))
 intro cp
 refine zG (zs (zs (zs (zs (zs (zs (zpF (nQ (zF (yZ (yE (yE (yP (zB (yA (wR (zG (zG (vI Try.underlying40 (i.rd).len (nLt a ((l).length) ?_ ?_))))))))))))))))))))
 ·intro co
  refine zG (zw (zG (zw (zG (zw ?_)))))
  have t := yN l a zo; obtain ⟨bd, bt⟩ := t
  have t := (i.rd).at (k := 1) zj bt
  obtain ⟨a8, r, bq, bs⟩ := t
  refine xO (k := .i64) o a _ a8 r qG bq zo zk zk (zw (yK a8 (r + a * 1) (I3 bd) zk zk (bs 0 _ rfl) (zw (zG (zw (zEq .i32 bd x ?_ ?_))))))
  ·intro c4
   exact xN (nQ (zT (wR (zG (zI (nQ (yB (zP (yJ [o] (hd := p) ⟨_, rfl, i.cast (by exact (addF_old a3 za zo).symm), fun g e => .inr e, n⟩)))))))))
  intro cn
  refine xN (nQ (zF (zZ (zB (wR (zI (nR (zG (zG (zG (L_slto qG o l a i zj zo zk ⟨.i64, zk⟩ ?_)))))))))))
  intro bz a0
  refine xV qG w.heap.size (.slice none 0 0) bz ([] : List (Int)) (List.take a l) n.size (Row.nil _ w.heap.size 21 1 encI32) a0 zo zj zj zk zk zk ?_
  intro b7 cm bl ah ao 
  have c := xR i ao (qD _)
  have n := n.grown ah n.size (fun k hk => by simp [Value.ownBlock] at hk)
  have i := i.grown ah (by cases h : Value.ownBlock _ <;> simp [Value.ownBlock])
  have b := c
  have j := yW c
  have d := bl
  refine zI (nR (zG (zG (L_app qG w.heap.size b7 (([] : List (Int)) ++ (List.take a l)) x n.size d zo zk rfl rfl zk rfl zk zk ?_))))
  intro b9 c0 a7 af an
  have c := vA i an b
  have n := n.tg n.size af d
  have i := i.grown af b
  have b := c; have j := yW c
  have d := a7
  refine zI (nR (zG (zG (zG (L_slfromV qG o l a i zj zo zk ⟨.i64, zk⟩ ?_)))))
  intro bx ar
  refine xV qG w.heap.size b9 bx ((([] : List (Int)) ++ (List.take a l)) ++ [x]) (List.drop a l) n.size d ar zo zj zj zk zk zk ?_
  intro cb cv a9 be aj 
  have c := xR i aj b
  have n := n.tg n.size be d
  have d := a9
  exact zI (nQ (yB (yJ [cb] (hd := p) ⟨_, rfl, (d.base hB_).cast (by exact (addF_new a3 za zo zo).symm), fun g e => .inl (World.ownsRow.lt d g e).1, n⟩)))
 intro cy
 refine zG (zs (zs (zs (zs (zs (zs (zpF (nQ (zF (zZ (zB (wR (zI (nR (zG (zG (zG (L_slto qG o l a i zj zo zk ⟨.i64, zk⟩ ?_))))))))))))))))))
 intro b1 ax
 refine xV qG w.heap.size (.slice none 0 0) b1 ([] : List (Int)) (List.take a l) n.size (Row.nil _ w.heap.size 21 1 encI32) ax (by (simp only [List.length_append, List.length_take, List.length_drop, List.length_cons, List.length_nil, List.length_set] <;> omega)) zj zj zk zk zk ?_
 intro b6 cq bk ab aw 
 have c := xR i aw (qD _)
 have n := n.grown ab n.size (fun k hk => by simp [Value.ownBlock] at hk)
 have i := i.grown ab (by cases h : Value.ownBlock _ <;> simp [Value.ownBlock])
 have b := c
 have j := yW c
 have d := bk
 refine zI (nR (zG (zG (L_app qG w.heap.size b6 (([] : List (Int)) ++ (List.take a l)) x n.size d (by (simp only [List.length_append, List.length_take, List.length_drop, List.length_cons, List.length_nil, List.length_set] <;> omega)) zk rfl rfl zk rfl zk zk ?_))))
 intro b4 c2 ay q z
 have c := vA i z b
 have n := n.tg n.size q d
 have i := i.grown q b
 have b := c; have j := yW c
 have d := ay
 refine zI (nR (zG (zG (zG (L_slfromV qG o l a i zj zo zk ⟨.i64, zk⟩ ?_)))))
 intro bi u
 refine xV qG w.heap.size b4 bi ((([] : List (Int)) ++ (List.take a l)) ++ [x]) (List.drop a l) n.size d u (by (simp only [List.length_append, List.length_take, List.length_drop, List.length_cons, List.length_nil, List.length_set] <;> omega)) zj zj zk zk zk ?_
 intro bf ci a6 av y 
 have c := xR i y b
 have n := n.tg n.size av d
 have d := a6
 exact zI (nQ (yB (yJ [bf] (hd := p) ⟨_, rfl, (d.base hB_).cast (by exact (addF_end a3 zo zo).symm), fun g e => .inl (World.ownsRow.lt d g e).1, n⟩)))
theorem c_strF (r : Value) (ds : List (Int × Int × List UInt8 × Bool)) (w : World) (j : Rd w encD r ds) (hln : ds.length ≤ 1073741824) (hok : OkD ds) :
  Calls Try.prog 122 #[r] w (Ret fun v w' => ∃ (q0 : Value), v = q0 ∧ Row w' w.heap.size 183 4 encD q0 (strF ds) ∧ Below w.heap.size w w') := by
 refine wL 82 Try.func122 rfl ?_
 have h := Below.refl w.heap.size w
 have p := j
 have gw := hok.rng
 have a2 := edg_of hok
 have ig := a2.pos
 have he := a2.len
 refine wR (zI (nR (zG (L_new (fun b => .slice (some ⟨b, 0, none⟩) 1 1) (.cells [r].toArray 82 (0, 0)) (by obtain ⟨a_, c_, e_⟩ := j.len; subst e_; kernel_rfl) (by obtain ⟨a_, c_, e_⟩ := j.len; subst e_; kernel_rfl) ?_))))
 intro b1 w2 ez
 have fx := ez.ge h.size
 have a : Row w2 w.heap.size 82 1 encVal (.slice (some ⟨b1, 0, none⟩) 1 1) ([r] : List (Value)) := Row.made ([r] : List (Value)) ez fx rfl rfl (by first | decide | (simp; done))
 refine qW 140 [(.slice (some ⟨b1, 0, none⟩) 1 1)] zk zk (wL 46 Try.func140 rfl (wR (zI (nR (zM 2 [(I3 0), (I3 1114112)] 21 ?_)))))
 intro b4 w5 dm
 have h := h.tr ez.below
 have f5 := dm.ge h.size
 have gg : Row w5 w.heap.size 21 1 encI32 (.slice (some ⟨b4, 0, none⟩) 2 2) ([0, 1114112] : List (Int)) := Row.made ([0, 1114112] : List (Int)) dm f5 rfl rfl (by first | decide | (simp; done))
 have a := a.below dm.below
 refine zI (nW (wR (zI (nQ (yC (W_unroll 1 (yA (wR (zG (zG (vI Try.underlying210 (a.rd).len (zr (.bool true) (nQ (zT (zZ (zB (yA (yC (wR (zI (nQ (yC ?_))))))))))))))))))))))
 have h := h.tr dm.below
 have j := p.below h
 refine wH (fun m s0 w0 => ∃ (i : Nat) (ed : List Int) (t : Value), (m = ds.length - i) ∧ (s0.ds = []) ∧ ([0, 2, 4, 3, 5].map s0.f = [(.slice (some ⟨b1, 0, none⟩) 1 1), (.slice none 0 0), (I6 0), t, (N6 i)]) ∧ (Rd w0 encD r ds) ∧ (Row w0 w.heap.size 82 1 encVal (.slice (some ⟨b1, 0, none⟩) 1 1) ([r] : List (Value))) ∧ (Row w0 w.heap.size 21 1 encI32 t ed) ∧ (Below w.heap.size w w0) ∧ (i ≤ ds.length) ∧ (ed = edgF (ds.take i))) _ ⟨0, ([0, 1114112] : List (Int)), (.slice (some ⟨b4, 0, none⟩) 2 2), rfl, zk, zk, j, a, gg, h, (Nat.zero_le _), rfl⟩ ?_
 rintro m7 s8 w9 ⟨i, ed, t, hm, am, ew, j, a, g, h, i1, i3⟩
 refine wF ew ?_
 have gy := edgF_len hok i; rw [← i3] at gy
 refine yA (wR (zG (zG (zG ?_))))
 have cl : ([r] : List (Value))[0]? = some r := rfl
 have q := (a.rd).at (k := 1) zj cl
 obtain ⟨f8, cu, gj, gk⟩ := q
 refine xO (k := .i64) (.slice (some ⟨b1, 0, none⟩) 1 1) 0 _ f8 cu el210 gj (by (simp only [List.length_append, List.length_take, List.length_drop, List.length_cons, List.length_nil, List.length_set] <;> omega)) zk zk (yK f8 (cu + 0 * 1) r zk zk (gk 0 _ rfl) (vI Try.underlying82 (j).len (nLt i ((ds).length) ?_ ?_)))
 ·intro ia
  refine nQ (zT (zZ (zB (yA (yC (wR (zG (zG (zG ?_)))))))))
  have q := (a.rd).at (k := 1) zj cl
  obtain ⟨ga, cr, go, gd⟩ := q
  refine xO (k := .i64) (.slice (some ⟨b1, 0, none⟩) 1 1) 0 _ ga cr el210 go (by (simp only [List.length_append, List.length_take, List.length_drop, List.length_cons, List.length_nil, List.length_set] <;> omega)) zk zk (yK ga (cr + 0 * 1) r zk zk (gd 0 _ rfl) (zG ?_))
  have q := yN ds i zo; obtain ⟨a6, cz⟩ := q
  have q := (j).at (k := 4) zj cz
  obtain ⟨da, bf, fw, ft⟩ := q
  have gr := gw _ (List.mem_of_getElem? cz)
  refine xO (k := .i64) r i _ da bf el82 fw zo zk zk (zr (pt da (bf + i * 4)) (zr (pt da (bf + i * 4)) (yK da (bf + i * 4) (I3 a6.1) zk zk (ft 0 _ rfl) (zc (c_addF t ed a6.1 _ h.size g zo) ?_))))
  rintro g1 io ⟨_, rfl, e0, hx, dn⟩
  refine zI (nQ (zW (zG (zG (zG ?_)))))
  have a := a.below dn
  have q := (a.rd).at (k := 1) zj cl
  obtain ⟨f9, cp, f0, f6⟩ := q
  refine xO (k := .i64) (.slice (some ⟨b1, 0, none⟩) 1 1) 0 _ f9 cp el210 f0 (by (simp only [List.length_append, List.length_take, List.length_drop, List.length_cons, List.length_nil, List.length_set] <;> omega)) zk zk (yK f9 (cp + 0 * 1) r zk zk (f6 0 _ rfl) (zG ?_))
  have h := h.tr dn
  have j := p.below h
  have q := (j).at (k := 4) zj cz
  obtain ⟨dj, ba, f1, gf⟩ := q
  refine xO (k := .i64) r i _ dj ba el82 f1 zo zk zk (zr (pt dj (ba + i * 4)) (zr (pt dj ((ba + i * 4) + 1)) (yK dj ((ba + i * 4) + 1) (I3 a6.2.1) zk zk (gf 1 _ rfl) (xL a6.2.1 1 (a6.2.1 + 1) rfl zk zk (xD _ zh zh) (zc (c_addF g1 (addF ed a6.1) (a6.2.1 + 1) _ h.size e0 (by exact Nat.le_trans (addF_len _ _) zo)) ?_)))))
  rintro gx ir ⟨_, rfl, ep, ht, dq⟩
  refine zI (zR (zS (zB (zW (zG (vG i 1 (zI (zR ?_))))))))
  have h := h.tr dq
  have j := p.below h
  have a := a.below dq
  refine zB ⟨_, zo, (i + 1), (addF (addF ed a6.1) (a6.2.1 + 1)), gx, rfl, am, zk, j, a, ep, h, zo, ?_⟩
  rw [i3]; exact edgF_take za
 intro ie
 refine nQ (zF (yZ (yE (yE (yP (zS (zB (zW (zG (vG 0 1 (zI (zR (xQ (yA (wR (zG (zG (vI Try.underlying210 (a.rd).len (zr (.bool false) (nQ (zF (yZ (yE (yE (yP (zB (wR (zG (zI (nQ (yB (yJ [t] (hd := am) ?_))))))))))))))))))))))))))))))))
 have ek : ed = (edgF ds) := by rw [i3, List.take_of_length_le zo]
 show L _ _ _ _ _ _ (Fm.put _ _ t) _
 refine zI (nR (zI (nW (wR (zI (nQ (yC ?_)))))))
 have g := g.cast ek
 refine wH (fun m s0 w0 => ∃ (i : Nat) (e : List StrV) (o : Value), (m = (edgF ds).length - i) ∧ (s0.ds = []) ∧ ([0, 2, 3, 4, 5].map s0.f = [r, (.slice none 0 0), t, o, (N6 i)]) ∧ (Rd w0 encD r ds) ∧ (Row w0 w.heap.size 82 1 encVal (.slice (some ⟨b1, 0, none⟩) 1 1) ([r] : List (Value))) ∧ (Row w0 w.heap.size 21 1 encI32 t (edgF ds)) ∧ (Row w0 w.heap.size 183 4 encD o e) ∧ (Below w.heap.size w w0) ∧ (i + 1 ≤ (edgF ds).length) ∧ (e = stN (atD ds) (edgF ds) i)) _ ⟨0, [], (.slice none 0 0), rfl, zk, zk, j, a, g, Row.nil _ _ _ _ _, h, zo, rfl⟩ ?_
 rintro h9 ii iy ⟨i, e, o, hm, am, ew, j, a, g, c, h, i1, i3⟩
 refine wF ew ?_
 have i4 : InS e ∧ e.length ≤ 1114112 := by rw [i3]; exact stN_at0 hok zo
 refine yA (wR (zG (vG i 1 (zG (vI Try.underlying40 (g.rd).len (nLt (i + 1) (((edgF ds)).length) ?_ ?_))))))
 ·intro im
  refine nQ (zT (zZ (zB (yA (yC (wR (zG (zG (zG ?_)))))))))
  have q := yN (edgF ds) i zo; obtain ⟨d, al⟩ := q
  have gv := a2.bd _ (List.mem_of_getElem? al)
  refine zE1 g.rd qG i al rfl fun _ => (zc (c_atD r ds d _ j zo) ?_)
  rintro _ id ⟨rfl, l⟩
  refine zG (zr (S ((atD ds d).1)) (zr (.bool ((atD ds d).2)) (xX ((atD ds d).2) ?_ ?_)))
  ·intro il
   have c := c.below l
   refine zI (zI (nR (zG (vI Try.underlying147 (c.rd).len (zI (nW (wR (zG (nGt ((e).length) 0 ?_ ?_)))))))))
   ·intro iw
    refine zG (zw (zG (zw (zG (zw (zsb ((e).length) 1 (zw ?_)))))))
    have q := yN e ((e).length - 1) zo; obtain ⟨u, a4⟩ := q
    have q := (c.rd).at (k := 4) zj a4
    obtain ⟨ey, bp, f2, fy⟩ := q
    have gu := i4.1 _ (List.mem_of_getElem? a4)
    refine xO (k := .i64) o ((e).length - 1) _ ey bp xK f2 zo zk zk (zw (zr (pt ey ((bp + ((e).length - 1) * 4) + 3)) (zw (yK ey ((bp + ((e).length - 1) * 4) + 3) (.bool u.2.2.2) zk zk (fy 3 _ rfl) (xX u.2.2.2 ?_ ?_)))))
    ·intro h7
     refine zw (zG (zw (zr (.bool true) (xN (zG (zw (zG (zw (zG (zw (zsb ((e).length) 1 (zw ?_))))))))))))
     have q := (c.rd).at (k := 4) zj a4
     obtain ⟨e9, bu, fv, f3⟩ := q
     refine xO (k := .i64) o ((e).length - 1) _ e9 bu xK fv zo zk zk (zw (zr (pt e9 ((bu + ((e).length - 1) * 4) + 2)) (zw (yK e9 ((bu + ((e).length - 1) * 4) + 2) (S u.2.2.1) zk zk (f3 2 _ rfl) (zw (zG (zw (vC u.2.2.1 ((atD ds d).1) rfl zk zk ?_ ?_))))))))
     ·intro iv
      refine xN (nQ (zT (wR (zG (zG (zsb ((e).length) 1 (zG (zG (vG i 1 ?_)))))))))
      have q := yN (edgF ds) (i + 1) zo; obtain ⟨bv, d9⟩ := q
      have gs := a2.bd _ (List.mem_of_getElem? d9)
      have g := g.below l
      refine zE1 g.rd qG (i + 1) d9 rfl fun _ => (xL bv 1 (bv - 1) rfl zk zk (xD _ zh zh) ?_)
      have q := (c.rd).at (k := 4) zj a4
      obtain ⟨db, bj, d2, h2⟩ := q
      refine xO (k := .i64) o ((e).length - 1) _ db bj xK d2 zo zk zk (zr (pt db (bj + ((e).length - 1) * 4)) (zr (pt db ((bj + ((e).length - 1) * 4) + 1)) (L_storeRow ((e).length - 1) 1 db bj u (u.1, (bv - 1), u.2.2.1, u.2.2.2) (I3 (bv - 1)) c zj a4 d2 zk zk rfl zk zk rfl ?_)))
      intro ik f4 cq
      have h := h.tr l
      have h := h.tg h.size cq c
      have a := a.below l
      have a := a.grown cq (a.apart c zk)
      have g := g.grown cq (g.apart c zk)
      have c := f4
      have h6 : (List.set e ((e).length - 1) (u.1, (bv - 1), u.2.2.1, u.2.2.2))[((e).length - 1)]? = some (u.1, (bv - 1), u.2.2.1, u.2.2.2) := set_here a4
      refine nQ (yZ (yE (yP (zB (zW (zG (vG i 1 (zI (zR ?_)))))))))
      have j := p.below h
      refine zB ⟨_, zo, (i + 1), (List.set e ((e).length - 1) (u.1, (bv - 1), u.2.2.1, u.2.2.2)), o, rfl, am, zk, j, a, g, c, h, zo, ?_⟩
      rw [stN_at za za, ← i3]; first | exact stS_on2 zo za za za za | exact qL zo za | exact xG (n := e.length - 1) zo za za (.inl za) | exact xG (n := e.length - 1) zo za za (.inr (by show _ = false; assumption)) | exact xG (n := e.length - 1) zo za za (.inr (by show _ = true; assumption))
     intro ih
     refine xN (nQ (zF (zZ (zB (xY 18 zk zk zk ?_)))))
     intro ix ce
     refine ip 0 rfl o (I_pre 1 15 18 3 zk zk zk zk zk zk zk zk zk (zY (zY ?_)))
     have g := (g.below l).below ce
     have q := (g.rd).at (k := 1) zj al
     obtain ⟨d4, b3, eu, ex⟩ := q
     refine yO (k := .i64) t i _ d4 b3 qG eu zo zk zk (zX d4 (b3 + i * 1) (I3 d) zk zf (ex 0 _ rfl) (zY (zY (qR i 1 zo zk zk ?_))))
     have q := yN (edgF ds) (i + 1) zo; obtain ⟨aa, cs⟩ := q
     have q := (g.rd).at (k := 1) zj cs
     obtain ⟨d8, b7, ff, fh⟩ := q
     have gq := a2.bd _ (List.mem_of_getElem? cs)
     refine yO (k := .i64) t (i + 1) _ d8 b7 qG ff zo zk zk (zX d8 (b7 + (i + 1) * 1) (I3 aa) zk zf (fh 0 _ rfl) (qX aa 1 (aa - 1) rfl zk zk (xD _ zh zh) (zV (Value.agg #[(I3 d), (I3 (aa - 1))]) zf (zY (zY (zV (Value.agg #[(I3 d), (I3 (aa - 1)), (S ((atD ds d).1)), (.bool true)]) zf (yM ?_)))))))
     intro hi bc
     refine yF 15 zk (yL 15 rfl ?_ rfl)
     refine zM 1 [(I3 d), (I3 (aa - 1)), (S ((atD ds d).1)), (.bool true)] 183 ?_
     intro c4 gc ag
     have h := ((h.tr l).tr ce).tr bc
     have dk := ag.ge h.size
     have c := (c.below ce).below bc
     have ax : Value.ownBlock o = none ∨ Value.ownBlock o ≠ Value.ownBlock (.slice (some ⟨c4, 0, none⟩) 1 1) := .inr (c.new_ne ag)
     have av := yW ax
     have cg : Row gc w.heap.size 183 4 encD (.slice (some ⟨c4, 0, none⟩) 1 1) ([(d, (aa - 1), (atD ds d).1, true)] : List (Int × Int × List UInt8 × Bool)) := Row.made ([(d, (aa - 1), (atD ds d).1, true)] : List (Int × Int × List UInt8 × Bool)) ag dk rfl rfl (by first | decide | (simp; done))
     refine zR ?_
     refine ⟨rfl, yF 16 zk (yL 16 rfl ?_ rfl)⟩
     have h := h.tr ag.below
     have c := c.below ag.below
     refine xV xK w.heap.size o (.slice (some ⟨c4, 0, none⟩) 1 1) e ([(d, (aa - 1), (atD ds d).1, true)] : List (Int × Int × List UInt8 × Bool)) h.size c cg.rd (by (simp only [List.length_append, List.length_take, List.length_drop, List.length_cons, List.length_nil, List.length_set] <;> omega)) zj zj zk zk zk ?_
     intro eb hu e6 bw df 
     have dy := xR cg df av
     have h := h.tg h.size bw c
     have a := (((a.below l).below ce).below bc).below ag.below
     have a := a.grown bw (a.apart c zk)
     have g := (g.below bc).below ag.below
     have g := g.grown bw (g.apart c zk)
     have c := e6
     refine zR ?_
     refine ⟨rfl, ip 17 rfl eb (yS zk (zS (zB (zW (zG (vG i 1 (zI (zR ?_))))))))⟩
     have j := p.below h
     refine zB ⟨_, zo, (i + 1), (e ++ ([(d, (aa - 1), (atD ds d).1, true)] : List (Int × Int × List UInt8 × Bool))), eb, rfl, am, zk, j, a, g, c, h, zo, ?_⟩
     rw [stN_at za za, ← i3]; first | exact stS_on2 zo za za za za | exact qL zo za | exact xG (n := e.length - 1) zo za za (.inl za) | exact xG (n := e.length - 1) zo za za (.inr (by show _ = false; assumption)) | exact xG (n := e.length - 1) zo za za (.inr (by show _ = true; assumption))
    intro hn
    refine zw (zG (zw (zr (.bool false) (xN (zG (zs (zs (zs (zs (zs (zs (zs (zs (zpF (nQ (zF (zZ (zB (xY 18 zk zk zk ?_)))))))))))))))))))
    intro g7 bh
    refine ip 0 rfl o (I_pre 1 15 18 3 zk zk zk zk zk zk zk zk zk (zY (zY ?_)))
    have g := (g.below l).below bh
    have q := (g.rd).at (k := 1) zj al
    obtain ⟨ea, cd, et, fa⟩ := q
    refine yO (k := .i64) t i _ ea cd qG et zo zk zk (zX ea (cd + i * 1) (I3 d) zk zf (fa 0 _ rfl) (zY (zY (qR i 1 zo zk zk ?_))))
    have q := yN (edgF ds) (i + 1) zo; obtain ⟨ad, ct⟩ := q
    have q := (g.rd).at (k := 1) zj ct
    obtain ⟨d5, b9, ej, fm⟩ := q
    have fr := a2.bd _ (List.mem_of_getElem? ct)
    refine yO (k := .i64) t (i + 1) _ d5 b9 qG ej zo zk zk (zX d5 (b9 + (i + 1) * 1) (I3 ad) zk zf (fm 0 _ rfl) (qX ad 1 (ad - 1) rfl zk zk (xD _ zh zh) (zV (Value.agg #[(I3 d), (I3 (ad - 1))]) zf (zY (zY (zV (Value.agg #[(I3 d), (I3 (ad - 1)), (S ((atD ds d).1)), (.bool true)]) zf (yM ?_)))))))
    intro ho a7
    refine yF 15 zk (yL 15 rfl ?_ rfl)
    refine zM 1 [(I3 d), (I3 (ad - 1)), (S ((atD ds d).1)), (.bool true)] 183 ?_
    intro cn fu ae
    have h := ((h.tr l).tr bh).tr a7
    have c9 := ae.ge h.size
    have c := (c.below bh).below a7
    have au : Value.ownBlock o = none ∨ Value.ownBlock o ≠ Value.ownBlock (.slice (some ⟨cn, 0, none⟩) 1 1) := .inr (c.new_ne ae)
    have aq := yW au
    have cf : Row fu w.heap.size 183 4 encD (.slice (some ⟨cn, 0, none⟩) 1 1) ([(d, (ad - 1), (atD ds d).1, true)] : List (Int × Int × List UInt8 × Bool)) := Row.made ([(d, (ad - 1), (atD ds d).1, true)] : List (Int × Int × List UInt8 × Bool)) ae c9 rfl rfl (by first | decide | (simp; done))
    refine zR ?_
    refine ⟨rfl, yF 16 zk (yL 16 rfl ?_ rfl)⟩
    have h := h.tr ae.below
    have c := c.below ae.below
    refine xV xK w.heap.size o (.slice (some ⟨cn, 0, none⟩) 1 1) e ([(d, (ad - 1), (atD ds d).1, true)] : List (Int × Int × List UInt8 × Bool)) h.size c cf.rd (by (simp only [List.length_append, List.length_take, List.length_drop, List.length_cons, List.length_nil, List.length_set] <;> omega)) zj zj zk zk zk ?_
    intro eh hv ev bo c7 
    have dr := xR cf c7 aq
    have h := h.tg h.size bo c
    have a := (((a.below l).below bh).below a7).below ae.below
    have a := a.grown bo (a.apart c zk)
    have g := (g.below a7).below ae.below
    have g := g.grown bo (g.apart c zk)
    have c := ev
    refine zR ?_
    refine ⟨rfl, ip 17 rfl eh (yS zk (zS (zB (zW (zG (vG i 1 (zI (zR ?_))))))))⟩
    have j := p.below h
    refine zB ⟨_, zo, (i + 1), (e ++ ([(d, (ad - 1), (atD ds d).1, true)] : List (Int × Int × List UInt8 × Bool))), eh, rfl, am, zk, j, a, g, c, h, zo, ?_⟩
    rw [stN_at za za, ← i3]; first | exact stS_on2 zo za za za za | exact qL zo za | exact xG (n := e.length - 1) zo za za (.inl za) | exact xG (n := e.length - 1) zo za za (.inr (by show _ = false; assumption)) | exact xG (n := e.length - 1) zo za za (.inr (by show _ = true; assumption))
   intro h0
   refine zG (zs (zs (zs (zs (zs (zs (zs (zs (zpF (zG (zs (zs (zs (zs (zs (zs (zs (zs (zpF (nQ (zF (zZ (zB (xY 18 zk zk zk ?_))))))))))))))))))))))))
   intro hp bi
   refine ip 0 rfl o (I_pre 1 15 18 3 zk zk zk zk zk zk zk zk zk (zY (zY ?_)))
   have g := (g.below l).below bi
   have q := (g.rd).at (k := 1) zj al
   obtain ⟨d1, ci, e1, em⟩ := q
   refine yO (k := .i64) t i _ d1 ci qG e1 zo zk zk (zX d1 (ci + i * 1) (I3 d) zk zf (em 0 _ rfl) (zY (zY (qR i 1 zo zk zk ?_))))
   have q := yN (edgF ds) (i + 1) zo; obtain ⟨z, c6⟩ := q
   have q := (g.rd).at (k := 1) zj c6
   obtain ⟨dx, b6, fi, fg⟩ := q
   have gb := a2.bd _ (List.mem_of_getElem? c6)
   refine yO (k := .i64) t (i + 1) _ dx b6 qG fi zo zk zk (zX dx (b6 + (i + 1) * 1) (I3 z) zk zf (fg 0 _ rfl) (qX z 1 (z - 1) rfl zk zk (xD _ zh zh) (zV (Value.agg #[(I3 d), (I3 (z - 1))]) zf (zY (zY (zV (Value.agg #[(I3 d), (I3 (z - 1)), (S ((atD ds d).1)), (.bool true)]) zf (yM ?_)))))))
   intro hj a8
   refine yF 15 zk (yL 15 rfl ?_ rfl)
   refine zM 1 [(I3 d), (I3 (z - 1)), (S ((atD ds d).1)), (.bool true)] 183 ?_
   intro cx gm af
   have h := ((h.tr l).tr bi).tr a8
   have di := af.ge h.size
   have c := (c.below bi).below a8
   have ar : Value.ownBlock o = none ∨ Value.ownBlock o ≠ Value.ownBlock (.slice (some ⟨cx, 0, none⟩) 1 1) := .inr (c.new_ne af)
   have a0 := yW ar
   have bz : Row gm w.heap.size 183 4 encD (.slice (some ⟨cx, 0, none⟩) 1 1) ([(d, (z - 1), (atD ds d).1, true)] : List (Int × Int × List UInt8 × Bool)) := Row.made ([(d, (z - 1), (atD ds d).1, true)] : List (Int × Int × List UInt8 × Bool)) af di rfl rfl (by first | decide | (simp; done))
   refine zR ?_
   refine ⟨rfl, yF 16 zk (yL 16 rfl ?_ rfl)⟩
   have h := h.tr af.below
   have c := c.below af.below
   refine xV xK w.heap.size o (.slice (some ⟨cx, 0, none⟩) 1 1) e ([(d, (z - 1), (atD ds d).1, true)] : List (Int × Int × List UInt8 × Bool)) h.size c bz.rd (by (simp only [List.length_append, List.length_take, List.length_drop, List.length_cons, List.length_nil, List.length_set] <;> omega)) zj zj zk zk zk ?_
   intro dz hw el bn dc 
   have eg := xR bz dc a0
   have h := h.tg h.size bn c
   have a := (((a.below l).below bi).below a8).below af.below
   have a := a.grown bn (a.apart c zk)
   have g := (g.below a8).below af.below
   have g := g.grown bn (g.apart c zk)
   have c := el
   refine zR ?_
   refine ⟨rfl, ip 17 rfl dz (yS zk (zS (zB (zW (zG (vG i 1 (zI (zR ?_))))))))⟩
   have j := p.below h
   refine zB ⟨_, zo, (i + 1), (e ++ ([(d, (z - 1), (atD ds d).1, true)] : List (Int × Int × List UInt8 × Bool))), dz, rfl, am, zk, j, a, g, c, h, zo, ?_⟩
   rw [stN_at za za, ← i3]; first | exact stS_on2 zo za za za za | exact qL zo za | exact xG (n := e.length - 1) zo za za (.inl za) | exact xG (n := e.length - 1) zo za za (.inr (by show _ = false; assumption)) | exact xG (n := e.length - 1) zo za za (.inr (by show _ = true; assumption))
  intro g9
  have c := c.below l
  refine zI (zI (nR (zG (vI Try.underlying147 (c.rd).len (zI (nW (wR (zG (nGt ((e).length) 0 ?_ ?_)))))))))
  ·intro hg
   refine zG (zw (zG (zw (zG (zw (zsb ((e).length) 1 (zw ?_)))))))
   have q := yN e ((e).length - 1) zo; obtain ⟨s, ak⟩ := q
   have q := (c.rd).at (k := 4) zj ak
   obtain ⟨cv, a9, fb, fk⟩ := q
   have gp := i4.1 _ (List.mem_of_getElem? ak)
   refine xO (k := .i64) o ((e).length - 1) _ cv a9 xK fb zo zk zk (zw (zr (pt cv ((a9 + ((e).length - 1) * 4) + 3)) (zw (yK cv ((a9 + ((e).length - 1) * 4) + 3) (.bool s.2.2.2) zk zk (fk 3 _ rfl) (xX s.2.2.2 ?_ ?_)))))
   ·intro hk
    refine zw (zG (zw (zr (.bool false) (xN (zG (zs (zs (zs (zs (zs (zs (zs (zs (zpF (nQ (zF (zZ (zB (xY 18 zk zk zk ?_)))))))))))))))))))
    intro hs bm
    refine ip 0 rfl o (I_pre 1 15 18 3 zk zk zk zk zk zk zk zk zk (zY (zY ?_)))
    have g := (g.below l).below bm
    have q := (g.rd).at (k := 1) zj al
    obtain ⟨ee, cj, fo, fp⟩ := q
    refine yO (k := .i64) t i _ ee cj qG fo zo zk zk (zX ee (cj + i * 1) (I3 d) zk zf (fp 0 _ rfl) (zY (zY (qR i 1 zo zk zk ?_))))
    have q := yN (edgF ds) (i + 1) zo; obtain ⟨y, cw⟩ := q
    have q := (g.rd).at (k := 1) zj cw
    obtain ⟨d0, b2, e7, e8⟩ := q
    have gh := a2.bd _ (List.mem_of_getElem? cw)
    refine yO (k := .i64) t (i + 1) _ d0 b2 qG e7 zo zk zk (zX d0 (b2 + (i + 1) * 1) (I3 y) zk zf (e8 0 _ rfl) (qX y 1 (y - 1) rfl zk zk (xD _ zh zh) (zV (Value.agg #[(I3 d), (I3 (y - 1))]) zf (zY (zY (zV (Value.agg #[(I3 d), (I3 (y - 1)), (S ((atD ds d).1)), (.bool false)]) zf (yM ?_)))))))
    intro g6 bg
    refine yF 15 zk (yL 15 rfl ?_ rfl)
    refine zM 1 [(I3 d), (I3 (y - 1)), (S ((atD ds d).1)), (.bool false)] 183 ?_
    intro cm fs aj
    have h := ((h.tr l).tr bm).tr bg
    have c8 := aj.ge h.size
    have c := (c.below bm).below bg
    have aw : Value.ownBlock o = none ∨ Value.ownBlock o ≠ Value.ownBlock (.slice (some ⟨cm, 0, none⟩) 1 1) := .inr (c.new_ne aj)
    have ap := yW aw
    have b0 : Row fs w.heap.size 183 4 encD (.slice (some ⟨cm, 0, none⟩) 1 1) ([(d, (y - 1), (atD ds d).1, false)] : List (Int × Int × List UInt8 × Bool)) := Row.made ([(d, (y - 1), (atD ds d).1, false)] : List (Int × Int × List UInt8 × Bool)) aj c8 rfl rfl (by first | decide | (simp; done))
    refine zR ?_
    refine ⟨rfl, yF 16 zk (yL 16 rfl ?_ rfl)⟩
    have h := h.tr aj.below
    have c := c.below aj.below
    refine xV xK w.heap.size o (.slice (some ⟨cm, 0, none⟩) 1 1) e ([(d, (y - 1), (atD ds d).1, false)] : List (Int × Int × List UInt8 × Bool)) h.size c b0.rd (by (simp only [List.length_append, List.length_take, List.length_drop, List.length_cons, List.length_nil, List.length_set] <;> omega)) zj zj zk zk zk ?_
    intro ei h3 er br de 
    have d6 := xR b0 de ap
    have h := h.tg h.size br c
    have a := (((a.below l).below bm).below bg).below aj.below
    have a := a.grown br (a.apart c zk)
    have g := (g.below bg).below aj.below
    have g := g.grown br (g.apart c zk)
    have c := er
    refine zR ?_
    refine ⟨rfl, ip 17 rfl ei (yS zk (zS (zB (zW (zG (vG i 1 (zI (zR ?_))))))))⟩
    have j := p.below h
    refine zB ⟨_, zo, (i + 1), (e ++ ([(d, (y - 1), (atD ds d).1, false)] : List (Int × Int × List UInt8 × Bool))), ei, rfl, am, zk, j, a, g, c, h, zo, ?_⟩
    rw [stN_at za za, ← i3]; first | exact stS_on2 zo za za za za | exact qL zo za | exact xG (n := e.length - 1) zo za za (.inl za) | exact xG (n := e.length - 1) zo za za (.inr (by show _ = false; assumption)) | exact xG (n := e.length - 1) zo za za (.inr (by show _ = true; assumption))
   intro g8
   refine zw (zG (zw (zr (.bool true) (xN (zG (zw (zG (zw (zG (zw (zsb ((e).length) 1 (zw ?_))))))))))))
   have q := (c.rd).at (k := 4) zj ak
   obtain ⟨cy, bb, e2, e5⟩ := q
   refine xO (k := .i64) o ((e).length - 1) _ cy bb xK e2 zo zk zk (zw (zr (pt cy ((bb + ((e).length - 1) * 4) + 2)) (zw (yK cy ((bb + ((e).length - 1) * 4) + 2) (S s.2.2.1) zk zk (e5 2 _ rfl) (zw (zG (zw (vC s.2.2.1 ((atD ds d).1) rfl zk zk ?_ ?_))))))))
   ·intro g3
    refine xN (nQ (zT (wR (zG (zG (zsb ((e).length) 1 (zG (zG (vG i 1 ?_)))))))))
    have q := yN (edgF ds) (i + 1) zo; obtain ⟨ay, c2⟩ := q
    have fz := a2.bd _ (List.mem_of_getElem? c2)
    have g := g.below l
    refine zE1 g.rd qG (i + 1) c2 rfl fun _ => (xL ay 1 (ay - 1) rfl zk zk (xD _ zh zh) ?_)
    have q := (c.rd).at (k := 4) zj ak
    obtain ⟨ca, an, co, gz⟩ := q
    refine xO (k := .i64) o ((e).length - 1) _ ca an xK co zo zk zk (zr (pt ca (an + ((e).length - 1) * 4)) (zr (pt ca ((an + ((e).length - 1) * 4) + 1)) (L_storeRow ((e).length - 1) 1 ca an s (s.1, (ay - 1), s.2.2.1, s.2.2.2) (I3 (ay - 1)) c zj ak co zk zk rfl zk zk rfl ?_)))
    intro h1 fl bq
    have h := h.tr l
    have h := h.tg h.size bq c
    have a := a.below l
    have a := a.grown bq (a.apart c zk)
    have g := g.grown bq (g.apart c zk)
    have c := fl
    have g0 : (List.set e ((e).length - 1) (s.1, (ay - 1), s.2.2.1, s.2.2.2))[((e).length - 1)]? = some (s.1, (ay - 1), s.2.2.1, s.2.2.2) := set_here ak
    refine nQ (yZ (yE (yP (zB (zW (zG (vG i 1 (zI (zR ?_)))))))))
    have j := p.below h
    refine zB ⟨_, zo, (i + 1), (List.set e ((e).length - 1) (s.1, (ay - 1), s.2.2.1, s.2.2.2)), o, rfl, am, zk, j, a, g, c, h, zo, ?_⟩
    rw [stN_at za za, ← i3]; first | exact stS_on2 zo za za za za | exact qL zo za | exact xG (n := e.length - 1) zo za za (.inl za) | exact xG (n := e.length - 1) zo za za (.inr (by show _ = false; assumption)) | exact xG (n := e.length - 1) zo za za (.inr (by show _ = true; assumption))
   intro hl
   refine xN (nQ (zF (zZ (zB (xY 18 zk zk zk ?_)))))
   intro hf bk
   refine ip 0 rfl o (I_pre 1 15 18 3 zk zk zk zk zk zk zk zk zk (zY (zY ?_)))
   have g := (g.below l).below bk
   have q := (g.rd).at (k := 1) zj al
   obtain ⟨d7, cc, fn, eo⟩ := q
   refine yO (k := .i64) t i _ d7 cc qG fn zo zk zk (zX d7 (cc + i * 1) (I3 d) zk zf (eo 0 _ rfl) (zY (zY (qR i 1 zo zk zk ?_))))
   have q := yN (edgF ds) (i + 1) zo; obtain ⟨ab, c0⟩ := q
   have q := (g.rd).at (k := 1) zj c0
   obtain ⟨d3, ch, fe, en⟩ := q
   have gn := a2.bd _ (List.mem_of_getElem? c0)
   refine yO (k := .i64) t (i + 1) _ d3 ch qG fe zo zk zk (zX d3 (ch + (i + 1) * 1) (I3 ab) zk zf (en 0 _ rfl) (qX ab 1 (ab - 1) rfl zk zk (xD _ zh zh) (zV (Value.agg #[(I3 d), (I3 (ab - 1))]) zf (zY (zY (zV (Value.agg #[(I3 d), (I3 (ab - 1)), (S ((atD ds d).1)), (.bool false)]) zf (yM ?_)))))))
   intro hh be
   refine yF 15 zk (yL 15 rfl ?_ rfl)
   refine zM 1 [(I3 d), (I3 (ab - 1)), (S ((atD ds d).1)), (.bool false)] 183 ?_
   intro c5 gl ah
   have h := ((h.tr l).tr bk).tr be
   have dd := ah.ge h.size
   have c := (c.below bk).below be
   have a1 : Value.ownBlock o = none ∨ Value.ownBlock o ≠ Value.ownBlock (.slice (some ⟨c5, 0, none⟩) 1 1) := .inr (c.new_ne ah)
   have a3 := yW a1
   have cb : Row gl w.heap.size 183 4 encD (.slice (some ⟨c5, 0, none⟩) 1 1) ([(d, (ab - 1), (atD ds d).1, false)] : List (Int × Int × List UInt8 × Bool)) := Row.made ([(d, (ab - 1), (atD ds d).1, false)] : List (Int × Int × List UInt8 × Bool)) ah dd rfl rfl (by first | decide | (simp; done))
   refine zR ?_
   refine ⟨rfl, yF 16 zk (yL 16 rfl ?_ rfl)⟩
   have h := h.tr ah.below
   have c := c.below ah.below
   refine xV xK w.heap.size o (.slice (some ⟨c5, 0, none⟩) 1 1) e ([(d, (ab - 1), (atD ds d).1, false)] : List (Int × Int × List UInt8 × Bool)) h.size c cb.rd (by (simp only [List.length_append, List.length_take, List.length_drop, List.length_cons, List.length_nil, List.length_set] <;> omega)) zj zj zk zk zk ?_
   intro dp h5 e3 bs dg 
   have dv := xR cb dg a3
   have h := h.tg h.size bs c
   have a := (((a.below l).below bk).below be).below ah.below
   have a := a.grown bs (a.apart c zk)
   have g := (g.below be).below ah.below
   have g := g.grown bs (g.apart c zk)
   have c := e3
   refine zR ?_
   refine ⟨rfl, ip 17 rfl dp (yS zk (zS (zB (zW (zG (vG i 1 (zI (zR ?_))))))))⟩
   have j := p.below h
   refine zB ⟨_, zo, (i + 1), (e ++ ([(d, (ab - 1), (atD ds d).1, false)] : List (Int × Int × List UInt8 × Bool))), dp, rfl, am, zk, j, a, g, c, h, zo, ?_⟩
   rw [stN_at za za, ← i3]; first | exact stS_on2 zo za za za za | exact qL zo za | exact xG (n := e.length - 1) zo za za (.inl za) | exact xG (n := e.length - 1) zo za za (.inr (by show _ = false; assumption)) | exact xG (n := e.length - 1) zo za za (.inr (by show _ = true; assumption))
  intro g4
  refine zG (zs (zs (zs (zs (zs (zs (zs (zs (zpF (zG (zs (zs (zs (zs (zs (zs (zs (zs (zpF (nQ (zF (zZ (zB (xY 18 zk zk zk ?_))))))))))))))))))))))))
  intro hr bl
  refine ip 0 rfl o (I_pre 1 15 18 3 zk zk zk zk zk zk zk zk zk (zY (zY ?_)))
  have g := (g.below l).below bl
  have q := (g.rd).at (k := 1) zj al
  obtain ⟨dw, b8, fj, e4⟩ := q
  refine yO (k := .i64) t i _ dw b8 qG fj zo zk zk (zX dw (b8 + i * 1) (I3 d) zk zf (e4 0 _ rfl) (zY (zY (qR i 1 zo zk zk ?_))))
  have q := yN (edgF ds) (i + 1) zo; obtain ⟨ac, c3⟩ := q
  have q := (g.rd).at (k := 1) zj c3
  obtain ⟨du, b5, es, fq⟩ := q
  have gi := a2.bd _ (List.mem_of_getElem? c3)
  refine yO (k := .i64) t (i + 1) _ du b5 qG es zo zk zk (zX du (b5 + (i + 1) * 1) (I3 ac) zk zf (fq 0 _ rfl) (qX ac 1 (ac - 1) rfl zk zk (xD _ zh zh) (zV (Value.agg #[(I3 d), (I3 (ac - 1))]) zf (zY (zY (zV (Value.agg #[(I3 d), (I3 (ac - 1)), (S ((atD ds d).1)), (.bool false)]) zf (yM ?_)))))))
  intro hc a5
  refine yF 15 zk (yL 15 rfl ?_ rfl)
  refine zM 1 [(I3 d), (I3 (ac - 1)), (S ((atD ds d).1)), (.bool false)] 183 ?_
  intro c1 f7 ai
  have h := ((h.tr l).tr bl).tr a5
  have dl := ai.ge h.size
  have c := (c.below bl).below a5
  have ao : Value.ownBlock o = none ∨ Value.ownBlock o ≠ Value.ownBlock (.slice (some ⟨c1, 0, none⟩) 1 1) := .inr (c.new_ne ai)
  have az := yW ao
  have ck : Row f7 w.heap.size 183 4 encD (.slice (some ⟨c1, 0, none⟩) 1 1) ([(d, (ac - 1), (atD ds d).1, false)] : List (Int × Int × List UInt8 × Bool)) := Row.made ([(d, (ac - 1), (atD ds d).1, false)] : List (Int × Int × List UInt8 × Bool)) ai dl rfl rfl (by first | decide | (simp; done))
  refine zR ?_
  refine ⟨rfl, yF 16 zk (yL 16 rfl ?_ rfl)⟩
  have h := h.tr ai.below
  have c := c.below ai.below
  refine xV xK w.heap.size o (.slice (some ⟨c1, 0, none⟩) 1 1) e ([(d, (ac - 1), (atD ds d).1, false)] : List (Int × Int × List UInt8 × Bool)) h.size c ck.rd (by (simp only [List.length_append, List.length_take, List.length_drop, List.length_cons, List.length_nil, List.length_set] <;> omega)) zj zj zk zk zk ?_
  intro ef hy fc bt dh 
  have ec := xR ck dh az
  have h := h.tg h.size bt c
  have a := (((a.below l).below bl).below a5).below ai.below
  have a := a.grown bt (a.apart c zk)
  have g := (g.below a5).below ai.below
  have g := g.grown bt (g.apart c zk)
  have c := fc
  refine zR ?_
  refine ⟨rfl, ip 17 rfl ef (yS zk (zS (zB (zW (zG (vG i 1 (zI (zR ?_))))))))⟩
  have j := p.below h
  refine zB ⟨_, zo, (i + 1), (e ++ ([(d, (ac - 1), (atD ds d).1, false)] : List (Int × Int × List UInt8 × Bool))), ef, rfl, am, zk, j, a, g, c, h, zo, ?_⟩
  rw [stN_at za za, ← i3]; first | exact stS_on2 zo za za za za | exact qL zo za | exact xG (n := e.length - 1) zo za za (.inl za) | exact xG (n := e.length - 1) zo za za (.inr (by show _ = false; assumption)) | exact xG (n := e.length - 1) zo za za (.inr (by show _ = true; assumption))
 intro g5
 exact nQ (zF (yZ (yE (yE (yP (zB (wR (zG (zI (nQ (yB (yJ [o] (hd := am) ⟨o, rfl, c.cast (by (rw [i3]; unfold strF; congr 1; omega)), h⟩))))))))))))
theorem c_ptsF (aa : Value) (ds : List (Int × Int × List UInt8 × Bool)) (w : World) (k : Rd w encD aa ds) (hln : ds.length ≤ 1073741824) (hok : OkD ds) :
  Calls Try.prog 83 #[aa] w (Ret fun v w' => ∃ (q0 : Value) (q1 : Value), v = (.tuple #[q0, q1]) ∧ Row w' w.heap.size 183 4 encD q0 (ptsF (strF ds)) ∧ Row w' w.heap.size 183 4 encD q1 (gapF (strF ds)) ∧ Below w.heap.size w w') := by
 refine wL 37 Try.func83 rfl ?_
 have s := Below.refl w.heap.size w
 have n := k
 have aj := vK hok
 have al := strF_InS hok
 have aw := ptsF_len (strF ds)
 have az := gapF_len (strF ds)
 have a0 := ptsF_InS al
 refine wR (zI (zI (nR (zG (zc (c_strF aa ds _ k zo zo) ?_)))))
 rintro q1 w2 ⟨_, rfl, g, an⟩
 have g := g.base s.size
 refine zI (nR (zI (zI (nW (wR (zI (nQ (yC ?_))))))))
 have s := s.tr an
 have k := n.below s
 refine wH (fun m s0 w0 => ∃ (i : Nat) (a : List StrV) (b : List StrV) (o : Value) (r : Value), (m = (strF ds).length - i) ∧ (s0.ds = []) ∧ ([2, 3, 4, 5, 6, 7].map s0.f = [(.slice none 0 0), (.slice none 0 0), q1, o, r, (N6 i)]) ∧ (Rd w0 encD aa ds) ∧ (Row w0 w.heap.size 183 4 encD q1 (strF ds)) ∧ (Row w0 w.heap.size 183 4 encD o a) ∧ (Row w0 w.heap.size 183 4 encD r b) ∧ (Value.ownBlock q1 = none ∨ Value.ownBlock q1 ≠ Value.ownBlock o) ∧ (Value.ownBlock q1 = none ∨ Value.ownBlock q1 ≠ Value.ownBlock r) ∧ (Value.ownBlock o = none ∨ Value.ownBlock o ≠ Value.ownBlock r) ∧ (Below w.heap.size w w0) ∧ (i ≤ (strF ds).length) ∧ (a = ptsF ((strF ds).take i)) ∧ (b = gapF ((strF ds).take i)) ∧ (a.length ≤ i) ∧ (b.length ≤ i)) _ ⟨0, [], [], (.slice none 0 0), (.slice none 0 0), rfl, zk, zk, k, g, Row.nil _ _ _ _ _, Row.nil _ _ _ _ _, qD _, qD _, qD _, s, (Nat.zero_le _), rfl, rfl, (Nat.le_refl _), (Nat.le_refl _)⟩ ?_
 rintro m5 s6 w7 ⟨i, a, b, o, r, hm, ag, aj, k, g, p, t, d, e, c, s, i1, i2, i3, i4, i5⟩
 refine wF aj ?_
 have u := yW d
 have q := yW e
 have h := yW c
 refine yA (wR (zG (zG (vI Try.underlying147 (g.rd).len (nLt i (((strF ds)).length) ?_ ?_)))))
 ·intro h8
  refine nQ (zT (zZ (zB (yA (yC (wR (zG (zG ?_))))))))
  have hz := yN (strF ds) i zo; obtain ⟨l, af⟩ := hz
  refine zE g.rd xK i af 3 rfl fun _ _ => (xX l.2.2.2 ?_ ?_)
  ·intro ax
   refine nQ (zT (zW (zG (zG (zG (zEA g.rd xK i af [(I3 l.1), (I3 l.2.1), (S l.2.2.1), (.bool l.2.2.2)] rfl fun _ => (L_app xK w.heap.size o a (l.1, l.2.1, l.2.2.1, l.2.2.2) s.size p zo zk rfl rfl zk rfl zk zk ?_)))))))
   intro am ay ah ab ac
   have j := vA g ac d
   have z := vA t ac h
   have s := s.tg s.size ab p
   have g := g.grown ab d
   have d := j; have u := yW j
   have t := t.grown ab h
   have h := z; have c := yW z
   have p := ah
   refine zI (zR (zS (zB (zW (zG (vG i 1 (zI (zR ?_))))))))
   have k := n.below s
   refine zB ⟨_, zo, (i + 1), (a ++ [(l.1, l.2.1, l.2.2.1, l.2.2.2)]), b, am, r, rfl, ag, zk, k, g, p, t, d, e, c, s, zo, ?_, ?_, ?_, zo⟩
   ·rw [i2]; first | exact ptsF_yes za za | exact ptsF_no za za
   ·rw [i3]; first | exact gapF_yes za za | exact gapF_no za za
   (simp only [List.length_append, List.length_take, List.length_drop, List.length_cons, List.length_nil, List.length_set] <;> omega)
  intro au
  refine nQ (zF (zW (zG (zG (zG (zEA g.rd xK i af [(I3 l.1), (I3 l.2.1), (S l.2.2.1), (.bool l.2.2.2)] rfl fun _ => (L_app xK w.heap.size r b (l.1, l.2.1, l.2.2.1, l.2.2.2) s.size t zo zk rfl rfl zk rfl zk zk ?_)))))))
  intro ap av ai ad ae
  have j := vA g ae e
  have y := vA p ae c
  have s := s.tg s.size ad t
  have g := g.grown ad e
  have e := j; have q := yW j
  have p := p.grown ad c
  have c := y; have h := yW y
  have t := ai
  refine zI (zR (zS (zB (zW (zG (vG i 1 (zI (zR ?_))))))))
  have k := n.below s
  refine zB ⟨_, zo, (i + 1), a, (b ++ [(l.1, l.2.1, l.2.2.1, l.2.2.2)]), o, ap, rfl, ag, zk, k, g, p, t, d, e, c, s, zo, ?_, ?_, zo, ?_⟩
  ·rw [i2]; first | exact ptsF_yes za za | exact ptsF_no za za
  ·rw [i3]; first | exact gapF_yes za za | exact gapF_no za za
  (simp only [List.length_append, List.length_take, List.length_drop, List.length_cons, List.length_nil, List.length_set] <;> omega)
 intro ar
 exact nQ (zF (yZ (yE (yE (yP (zB (wR (zG (zG (zI (zI (nQ (yB (yJ [o, r] (hd := ag) ⟨o, r, rfl, p.cast (by (rw [i2, List.take_of_length_le zo]; done)), t.cast (by (rw [i3, List.take_of_length_le zo]; done)), s⟩))))))))))))))
theorem c_szF (o : Value) (ds : List (Int × Int × List UInt8 × Bool)) (lo : Int) (hi : Int) (w : World) (b : Rd w encD o ds) (hln : ds.length ≤ 1073741824) (hok : OkD ds) (hlo : -2147483648 ≤ lo ∧ lo ≤ 2147483647) (hhi : -2147483648 ≤ hi ∧ hi ≤ 2147483647) :
  Calls Try.prog 85 #[o, (Value.agg #[(I3 lo), (I3 hi)])] w (Ret fun v w' => v = (I6 (szF (ptsF (strF ds)) lo hi)) ∧ Below w.heap.size w w') := by
 refine wL 51 Try.func85 rfl ?_
 have l := Below.refl w.heap.size w
 have af := vK hok
 have ai := strF_InS hok
 have ao := ptsF_len (strF ds)
 have aw := gapF_len (strF ds)
 have ag := ptsF_InS ai
 refine wR (zN [(I3 lo), (I3 hi)] 29 ?_)
 intro y w2 s
 have al := s.ge l.size
 have d := s.here
 have b := b.below s.below
 refine zI (nR (zG (zc (c_ptsF o ds _ b zo (by exact hok)) ?_)))
 rintro _ w6 ⟨q4, q5, rfl, c, g, t⟩
 have l := l.tr s.below
 have c := c.base l.size
 have g := g.base l.size
 refine zG (zr q4 (zr q5 (zI (zI (nR (zI (nW (wR (zI (nQ (yC ?_)))))))))))
 have l := l.tr t
 have d := zA d t
 have b := b.below t
 refine wH (fun m s0 w0 => ∃ (i : Nat) (n : Int), (m = (ptsF (strF ds)).length - i) ∧ (s0.ds = []) ∧ ([3, 4, 5, 7, 8].map s0.f = [(pt y 0), (I6 0), q4, (I6 n), (N6 i)]) ∧ (Rd w0 encD o ds) ∧ (Row w0 w.heap.size 183 4 encD q4 (ptsF (strF ds))) ∧ (Row w0 w.heap.size 183 4 encD q5 (gapF (strF ds))) ∧ (w0.heap[y]? = some (.cells [(I3 lo), (I3 hi)].toArray 29 (0, 0))) ∧ (Below w.heap.size w w0) ∧ (i ≤ (ptsF (strF ds)).length) ∧ (n = szF ((ptsF (strF ds)).take i) lo hi)) _ ⟨0, 0, rfl, zk, zk, b, c, g, d, l, (Nat.zero_le _), rfl⟩ ?_
 rintro m9 au ay ⟨i, n, hm, u, af, b, c, g, d, l, i1, i2⟩
 refine wF af ?_
 have am := szF_bd (lo := lo) (hi := hi) ag i1
 refine yA (wR (zG (zG (vI Try.underlying147 (c.rd).len (nLt i (((ptsF (strF ds))).length) ?_ ?_)))))
 ·intro ap
  refine nQ (zT (zZ (zB (yA (yC (yA (yV zk zk (zY (zY ?_)))))))))
  have z := yN (ptsF (strF ds)) i zo; obtain ⟨a, p⟩ := z
  have z := (c.rd).at (k := 4) zj p
  obtain ⟨q, h, ab, aa⟩ := z
  have ah := ag.at p
  refine yO (k := .i64) q4 i _ q h xK ab zo zk zk (zV (pt q (h + i * 4)) zf (zV (pt q (h + i * 4)) zf (zX q (h + i * 4) (I3 a.1) zk zf (aa 0 _ rfl) (zV (pt y 0) zf (zX y 0 (I3 lo) zk zf (zK d rfl) (Lq_max (k := .i32) a.1 lo zk zk (zY (zY ?_))))))))
  have z := (c.rd).at (k := 4) zj p
  obtain ⟨r, j, ac, ad⟩ := z
  refine yO (k := .i64) q4 i _ r j xK ac zo zk zk (zV (pt r (j + i * 4)) zf (zV (pt r ((j + i * 4) + 1)) zf (zX r ((j + i * 4) + 1) (I3 a.2.1) zk zf (ad 1 _ rfl) (zV (pt y 1) zf (zX y 1 (I3 hi) zk zf (zK d rfl) (Lq_min (k := .i32) a.2.1 hi zk zk (xA (xA (yM ?_)))))))))
  intro aq e
  refine zB (wR (zG (zG (zLe .i32 (max a.1 lo) (min a.2.1 hi) ?_ ?_))))
  ·intro an
   refine nQ (zT (zW (zG (zG (zG (xL (min a.2.1 hi) (max a.1 lo) ((min a.2.1 hi) - (max a.1 lo)) rfl zk zk (xD _ zh zh) (L_conv (k := .i32) ((min a.2.1 hi) - (max a.1 lo)) ((min a.2.1 hi) - (max a.1 lo)) zk Try.underlying3 zk (xH _ zo zo) (xL n ((min a.2.1 hi) - (max a.1 lo)) (n + ((min a.2.1 hi) - (max a.1 lo))) rfl zk zk (xH _ zh zh) (xL (n + ((min a.2.1 hi) - (max a.1 lo))) 1 ((n + ((min a.2.1 hi) - (max a.1 lo))) + 1) rfl zk zk (xH _ zh zh) (zI (zR (zS (zB (zW (zG (vG i 1 (zI (zR ?_))))))))))))))))))
   have l := l.tr e
   have d := zA d e
   have b := b.below e
   have c := c.below e
   have g := g.below e
   refine zB ⟨_, zo, (i + 1), ((n + ((min a.2.1 hi) - (max a.1 lo))) + 1), rfl, u, zk, b, c, g, d, l, zo, ?_⟩
   rw [i2, szF_take za]; first | (rw [ovl_yes zo]; omega) | (rw [ovl_no zo]; omega)
  intro ar
  refine nQ (zF (zZ (zS (zB (zW (zG (vG i 1 (zI (zR ?_)))))))))
  have l := l.tr e
  have d := zA d e
  have b := b.below e
  have c := c.below e
  have g := g.below e
  refine zB ⟨_, zo, (i + 1), n, rfl, u, zk, b, c, g, d, l, zo, ?_⟩
  rw [i2, szF_take za]; first | (rw [ovl_yes zo]; omega) | (rw [ovl_no zo]; omega)
 intro ax
 exact nQ (zF (yZ (yE (yE (yP (zB (wR (zG (zI (nQ (yB (yJ [(I6 n)] (hd := u) ⟨e6 (by (rw [i2, List.take_of_length_le zo]; done)), l⟩))))))))))))
theorem c_with (f : Value) (ds : List (Int × Int × List UInt8 × Bool)) (lo : Int) (hi : Int) (val : List UInt8) (gone : Bool) (w : World) (e : Rd w encD f ds) (hln : ds.length ≤ 1073741824) :
  Calls Try.prog 139 #[f, (Value.agg #[(I3 lo), (I3 hi), (S val), (.bool gone)])] w (Ret fun v w' => ∃ (q0 : Value), v = q0 ∧ Row w' w.heap.size 187 4 encD q0 (ds ++ [(lo, hi, val, gone)]) ∧ Below w.heap.size w w') := by
 refine wL 13 Try.func139 rfl ?_
 have d := Below.refl w.heap.size w
 refine wR (zN [(I3 lo), (I3 hi), (S val), (.bool gone)] 187 ?_)
 intro y t g
 have q := g.ge d.size
 have c := g.here
 have d := d.tr g.below
 have e := e.below g.below
 refine zI (nR (zI (nR (zG (zG (xV el82 w.heap.size (.slice none 0 0) f ([] : List (Int × Int × List UInt8 × Bool)) ds d.size (Row.nil _ w.heap.size 187 4 encD) e (by (simp only [List.length_append, List.length_take, List.length_drop, List.length_cons, List.length_nil, List.length_set] <;> omega)) zj zj zk zk zk ?_))))))
 intro s u o l j 
 have b := ownb_app2 j (by simp [Value.ownBlock]) (yD c)
 have d := d.grown l d.size (fun k hk => by simp [Value.ownBlock] at hk)
 have c := yI c l (by simp [Value.ownBlock])
 have a := b
 have h := o
 refine zI (nR (zG (wG c (L_app el82 w.heap.size s (([] : List (Int × Int × List UInt8 × Bool)) ++ ds) (lo, hi, val, gone) d.size h (by (simp only [List.length_append, List.length_take, List.length_drop, List.length_cons, List.length_nil, List.length_set] <;> omega)) zk rfl rfl zk rfl zk zk ?_))))
 intro p r m n i
 have b := ownb_app i a (yD c)
 have d := d.tg d.size n h
 have a := b
 have h := m
 exact zI (nQ (yB (yJ [p] ⟨p, rfl, h.cast (by first | rfl | (simp; done)), d⟩)))
theorem c_putD (b : Value) (ds : List (Int × Int × List UInt8 × Bool)) (lo : Int) (hi : Int) (val : List UInt8) (w : World) (a : Rx w 0 187 4 encD b ds) (hb_ : ds.length ≤ 1073741822) (hok : OkD ds) (hlo : -2147483648 ≤ lo ∧ lo ≤ 2147483647) (hhi : -2147483648 ≤ hi ∧ hi ≤ 2147483647) :
  Calls Try.prog 111 #[b, (Value.agg #[(I3 lo), (I3 hi)]), (S val)] w (Ret fun v w' => ∃ (q0 : Value), v = (.tuple #[q0, (I6 (if mayG lo hi = false then 41 else if szF (ptsF (strF ds)) lo hi > 0 then 42 else 0))]) ∧ Rx w' w.heap.size 187 4 encD q0 (if mayG lo hi = false then ds else if szF (ptsF (strF ds)) lo hi > 0 then ds else putD ds lo hi val) ∧ Below w.heap.size w w') := by
 refine wL 22 Try.func111 rfl ?_
 have f := Below.refl w.heap.size w
 refine wR (zN [(I3 lo), (I3 hi)] 29 ?_)
 intro t q e
 have k := e.ge f.size
 have c := e.here
 refine zI (zI (nW (wR (wG c (zc (qJ lo hi _ ) ?_)))))
 rintro _ s ⟨rfl, g⟩
 refine xX (mayF lo hi) ?_ ?_
 ·intro p
  have c := zA c g
  have a := (a.below e.below).below g
  refine znt true (nQ (zF (zZ (zB (yA (wR (zG (wG c (zc (c_szF b ds lo hi _ a.rd zo (by exact hok) zo zo) ?_)))))))))
  rintro _ r ⟨rfl, h⟩
  refine zGt .i64 (szF (ptsF (strF ds)) lo hi) 0 ?_ ?_
  ·intro l
   have f := ((f.tr e.below).tr g).tr h
   have a := a.below h
   exact nQ (zT (wR (zG (zI (zI (nQ (yB (zP (yJ [b, (I6 42)] ⟨b, qP rfl (e6 (by (rw [if_neg (tnf za), if_pos zo]; done))), a.cast (by (rw [if_neg (tnf za), if_pos zo]; done)), f⟩)))))))))
  intro m
  have c := zA c h
  have a := a.below h
  refine nQ (zF (zZ (zB (wR (zG (wG c (zG (zr (Value.agg #[(I3 lo), (I3 hi), (S val), (.bool false)]) (zc (c_with b ds lo hi val false _ a.rd zo) ?_)))))))))
  rintro i o ⟨_, rfl, d, j⟩
  have f := ((f.tr e.below).tr g).tr h
  have d := d.base f.size
  have f := f.tr j
  exact zI (zI (nQ (yB (yJ [i, (I6 0)] ⟨i, qP rfl (e6 (by (rw [if_neg (tnf za), if_neg zo]; done))), (d.rx).cast (by (rw [if_neg (tnf za), if_neg zo]; rfl)), f⟩))))
 intro n
 have f := (f.tr e.below).tr g
 have a := (a.below e.below).below g
 exact znt false (nQ (zT (wR (zG (zI (zI (nQ (yB (zP (yJ [b, (I6 41)] ⟨b, qP rfl (e6 (by (rw [if_pos za]; done))), a.cast (by (rw [if_pos za]; done)), f⟩))))))))))
theorem c_layD (b : Value) (ds : List (Int × Int × List UInt8 × Bool)) (lo : Int) (hi : Int) (val : List UInt8) (w : World) (a : Rx w 0 187 4 encD b ds) (hb_ : ds.length ≤ 1073741822) (hlo : -2147483648 ≤ lo ∧ lo ≤ 2147483647) (hhi : -2147483648 ≤ hi ∧ hi ≤ 2147483647) :
  Calls Try.prog 112 #[b, (Value.agg #[(I3 lo), (I3 hi)]), (S val)] w (Ret fun v w' => ∃ (q0 : Value), v = (.tuple #[q0, (I6 (layE lo hi))]) ∧ Rx w' w.heap.size 187 4 encD q0 (if mayG lo hi = false then ds else putD ds lo hi val) ∧ Below w.heap.size w w') := by
 refine wL 17 Try.func112 rfl ?_
 have g := Below.refl w.heap.size w
 refine wR (zN [(I3 lo), (I3 hi)] 29 ?_)
 intro n p d
 have i := d.ge g.size
 have c := d.here
 refine zI (zI (nW (wR (wG c (zc (qJ lo hi _ ) ?_)))))
 rintro _ l ⟨rfl, e⟩
 refine xX (mayF lo hi) ?_ ?_
 ·intro m
  have c := zA c e
  have a := (a.below d.below).below e
  refine znt true (nQ (zF (zZ (zB (wR (zG (wG c (zG (zr (Value.agg #[(I3 lo), (I3 hi), (S val), (.bool false)]) (zc (c_with b ds lo hi val false _ a.rd zo) ?_))))))))))
  rintro j o ⟨_, rfl, f, h⟩
  have g := (g.tr d.below).tr e
  have f := f.base g.size
  have g := g.tr h
  exact zI (zI (nQ (yB (yJ [j, (I6 0)] ⟨j, qP rfl (e6 (by (rw [layE, if_neg (tnf za)]; done))), (f.rx).cast (by (rw [if_neg (tnf za)]; rfl)), g⟩))))
 intro k
 have g := (g.tr d.below).tr e
 have a := (a.below d.below).below e
 exact znt false (nQ (zT (wR (zG (zI (zI (nQ (yB (zP (yJ [b, (I6 41)] ⟨b, qP rfl (e6 (by (rw [layE, if_pos za]; done))), a.cast (by (rw [if_pos za]; done)), g⟩))))))))))
theorem c_cutD (c : Value) (ds : List (Int × Int × List UInt8 × Bool)) (lo : Int) (hi : Int) (w : World) (a : Rx w 0 187 4 encD c ds) (hb_ : ds.length ≤ 1073741822) (hok : OkD ds) (hlo : -2147483648 ≤ lo ∧ lo ≤ 2147483647) (hhi : -2147483648 ≤ hi ∧ hi ≤ 2147483647) :
  Calls Try.prog 113 #[c, (Value.agg #[(I3 lo), (I3 hi)])] w (Ret fun v w' => ∃ (q0 : Value), v = (.tuple #[q0, (I6 (if mayG lo hi = false then 0 else szF (ptsF (strF ds)) lo hi)), (I6 (layE lo hi))]) ∧ Rx w' w.heap.size 187 4 encD q0 (if mayG lo hi = false then ds else cutD ds lo hi) ∧ Below w.heap.size w w') := by
 refine wL 18 Try.func113 rfl ?_
 have g := Below.refl w.heap.size w
 refine wR (zN [(I3 lo), (I3 hi)] 29 ?_)
 intro b1 w2 i
 have t := i.ge g.size
 have b := i.here
 refine zI (zI (zI (nW (wR (wG b (zc (qJ lo hi _ ) ?_))))))
 rintro _ w4 ⟨rfl, h⟩
 refine xX (mayF lo hi) ?_ ?_
 ·intro h7
  refine znt true (nQ (zF (zZ (zB (yA (xY 10 zk zk zk ?_))))))
  intro w8 j
  refine ip 0 rfl c (ip 4 rfl c (wM 1 5 zk ?_ ?_))
  ·skip
   refine yL 1 rfl ?_ rfl
   have b := zA (zA b h) j
   refine wG b (zR ?_)
   refine ⟨rfl, ip 2 rfl (Value.agg #[(I3 lo), (I3 hi), (S []), (.bool true)]) (wM 3 5 zk ?_ ?_)⟩
   ·skip
    refine yL 3 rfl ?_ rfl
    have a := ((a.below i.below).below h).below j
    refine zc (c_with c ds lo hi ([] : List UInt8) true _ a.rd zo) ?_
    rintro q ad ⟨_, rfl, d, k⟩
    have g := ((g.tr i.below).tr h).tr j
    have d := d.base g.size
    refine zR ?_
    refine ⟨rfl, yF 5 zk (yL 5 rfl ?_ rfl)⟩
    have b := zA b k
    refine wG b (zR ?_)
    refine ⟨rfl, yF 6 zk (yL 6 rfl ?_ rfl)⟩
    have a := a.below k
    refine zc (c_szF c ds lo hi _ a.rd zo (by exact hok) zo zo) ?_
    rintro _ z ⟨rfl, m⟩
    refine zR ?_
    refine ⟨rfl, ip 7 rfl q (ip 8 rfl (I6 (szF (ptsF (strF ds)) lo hi)) (ip 9 rfl (I6 0) (yS zk ?_)))⟩
    have g := (g.tr k).tr m
    have d := d.below m
    exact zB (yB (yJ [q, (I6 (szF (ptsF (strF ds)) lo hi)), (I6 0)] ⟨q, tup3 rfl (e6 (by (rw [if_neg (tnf za)]; done))) (e6 (by (rw [layE, if_neg (tnf za)]; done))), (d.rx).cast (by (rw [if_neg (tnf za)]; rfl)), g⟩))
   skip
   refine yL 5 rfl ?_ rfl
   refine wG b (zR ?_)
   refine ⟨rfl, yF 3 zk (yL 3 rfl ?_ rfl)⟩
   have a := ((a.below i.below).below h).below j
   refine zc (c_with c ds lo hi ([] : List UInt8) true _ a.rd zo) ?_
   rintro r aa ⟨_, rfl, e, n⟩
   have g := ((g.tr i.below).tr h).tr j
   have e := e.base g.size
   refine zR ?_
   refine ⟨rfl, yF 6 zk (yL 6 rfl ?_ rfl)⟩
   have a := a.below n
   refine zc (c_szF c ds lo hi _ a.rd zo (by exact hok) zo zo) ?_
   rintro _ y ⟨rfl, o⟩
   refine zR ?_
   refine ⟨rfl, ip 7 rfl r (ip 8 rfl (I6 (szF (ptsF (strF ds)) lo hi)) (ip 9 rfl (I6 0) (yS zk ?_)))⟩
   have g := (g.tr n).tr o
   have e := e.below o
   exact zB (yB (yJ [r, (I6 (szF (ptsF (strF ds)) lo hi)), (I6 0)] ⟨r, tup3 rfl (e6 (by (rw [if_neg (tnf za)]; done))) (e6 (by (rw [layE, if_neg (tnf za)]; done))), (e.rx).cast (by (rw [if_neg (tnf za)]; rfl)), g⟩))
  skip
  refine yL 5 rfl ?_ rfl
  have b := zA (zA b h) j
  refine wG b (zR ?_)
  refine ⟨rfl, yF 1 zk (yL 1 rfl ?_ rfl)⟩
  refine wG b (zR ?_)
  refine ⟨rfl, ip 2 rfl (Value.agg #[(I3 lo), (I3 hi), (S []), (.bool true)]) (yF 3 zk (yL 3 rfl ?_ rfl))⟩
  have a := ((a.below i.below).below h).below j
  refine zc (c_with c ds lo hi ([] : List UInt8) true _ a.rd zo) ?_
  rintro s u ⟨_, rfl, f, l⟩
  have g := ((g.tr i.below).tr h).tr j
  have f := f.base g.size
  refine zR ?_
  refine ⟨rfl, yF 6 zk (yL 6 rfl ?_ rfl)⟩
  have a := a.below l
  refine zc (c_szF c ds lo hi _ a.rd zo (by exact hok) zo zo) ?_
  rintro _ ac ⟨rfl, p⟩
  refine zR ?_
  refine ⟨rfl, ip 7 rfl s (ip 8 rfl (I6 (szF (ptsF (strF ds)) lo hi)) (ip 9 rfl (I6 0) (yS zk ?_)))⟩
  have g := (g.tr l).tr p
  have f := f.below p
  exact zB (yB (yJ [s, (I6 (szF (ptsF (strF ds)) lo hi)), (I6 0)] ⟨s, tup3 rfl (e6 (by (rw [if_neg (tnf za)]; done))) (e6 (by (rw [layE, if_neg (tnf za)]; done))), (f.rx).cast (by (rw [if_neg (tnf za)]; rfl)), g⟩))
 intro ab
 have g := (g.tr i.below).tr h
 have a := (a.below i.below).below h
 exact znt false (nQ (zT (wR (zG (zI (zI (zI (nQ (yB (zP (yJ [c, (I6 0), (I6 41)] ⟨c, tup3 rfl (e6 (by (rw [if_pos za]; done))) (e6 (by (rw [layE, if_pos za]; done))), a.cast (by (rw [if_pos za]; done)), g⟩)))))))))))
theorem wK (ab : Value) (ds : List (Int × Int × List UInt8 × Bool)) (lo : Int) (hi : Int) (w : World) (g : Rd w encD ab ds) (hln : ds.length ≤ 1073741824) (hok : OkD ds) (hlo : -2147483648 ≤ lo ∧ lo ≤ 2147483647) (hhi : -2147483648 ≤ hi ∧ hi ≤ 2147483647) :
  Calls Try.prog 115 #[ab, (Value.agg #[(I3 lo), (I3 hi)])] w (Ret fun v w' => v = (.tuple #[(Value.agg #[(I3 ((meetsD ds lo hi).1)), (I3 ((meetsD ds lo hi).2.1))]), (S ((meetsD ds lo hi).2.2.1)), (.bool ((meetsD ds lo hi).2.2.2))]) ∧ Below w.heap.size w w') := by
 refine wL 56 Try.func115 rfl ?_
 have l := Below.refl w.heap.size w
 have a5 := vK hok
 have bd := strF_InS hok
 have bi := ptsF_len (strF ds)
 have bt := gapF_len (strF ds)
 have bg := ptsF_InS bd
 refine wR (zN [(I3 lo), (I3 hi)] 29 ?_)
 intro b1 w2 an
 have bh := an.ge l.size
 have d := an.here
 refine zN [(I3 0), (I3 0)] 29 ?_
 intro b4 w5 ac
 have l := l.tr an.below
 have ag := ac.ge l.size
 have b := ac.here
 have d := zA d ac.below
 refine zI (zI (nW (wR (wG d (zc (qJ lo hi _ ) ?_)))))
 rintro _ w7 ⟨rfl, ad⟩
 refine xX (mayF lo hi) ?_ ?_
 ·intro bu
  have g := ((g.below an.below).below ac.below).below ad
  refine znt true (nQ (zF (zZ (zB (wR (zG (zc (c_ptsF ab ds _ g zo (by exact hok)) ?_)))))))
  rintro _ bv ⟨q, a8, rfl, a, e, z⟩
  have l := (l.tr ac.below).tr ad
  have a := a.base l.size
  have e := e.base l.size
  refine zG (zr q (zr a8 (zI (zI (nW (wR (zI (nQ (yC ?_)))))))))
  have l := l.tr z
  have d := zA (zA d ad) z
  have b := zA (zA b ad) z
  have g := g.below z
  refine wH (fun m s0 w0 => ∃ (i : Nat), (m = (ptsF (strF ds)).length - i) ∧ (s0.ds = []) ∧ ([3, 4, 7, 9].map s0.f = [(pt b1 0), (pt b4 0), q, (N6 i)]) ∧ (Rd w0 encD ab ds) ∧ (Row w0 w.heap.size 183 4 encD q (ptsF (strF ds))) ∧ (Row w0 w.heap.size 183 4 encD a8 (gapF (strF ds))) ∧ (w0.heap[b1]? = some (.cells [(I3 lo), (I3 hi)].toArray 29 (0, 0))) ∧ (w0.heap[b4]? = some (.cells [(I3 0), (I3 0)].toArray 29 (0, 0))) ∧ (Below w.heap.size w w0) ∧ (i ≤ (ptsF (strF ds)).length) ∧ (noM (ptsF (strF ds)) lo hi i)) _ ⟨0, rfl, zk, zk, g, a, e, d, b, l, (Nat.zero_le _), (noM_zero _ _ _)⟩ ?_
  rintro br bw bj ⟨i, hm, al, a5, g, a, e, d, b, l, i1, i2⟩
  refine wF a5 (yA (wR (zG (zG (vI Try.underlying147 (a.rd).len (nLt i (((ptsF (strF ds))).length) ?_ ?_))))))
  ·intro bs
   refine nQ (zT (zZ (zB (yA (yC (yA (yV zk zk (zY (zY ?_)))))))))
   have hz := yN (ptsF (strF ds)) i zo; obtain ⟨c, y⟩ := hz
   have hz := (a.rd).at (k := 4) zj y
   obtain ⟨ai, t, a7, a1⟩ := hz
   have ba := bg.at y
   refine yO (k := .i64) q i _ ai t xK a7 zo zk zk (zV (pt ai (t + i * 4)) zf (zV (pt ai (t + i * 4)) zf (zX ai (t + i * 4) (I3 c.1) zk zf (a1 0 _ rfl) (zV (pt b1 1) zf (zX b1 1 (I3 hi) zk zf (zK d rfl) (Lq_cmp .i32 c.1 hi (c.1 ≤ hi) rfl (cmp_le c.1 hi) zk zk ?_ ?_))))))
   ·intro be
    replace be : c.1 ≤ hi := by omega
    refine zY (qw (zY (qw (zY (qw ?_)))))
    have hz := (a.rd).at (k := 4) zj y
    obtain ⟨ah, p, a3, a4⟩ := hz
    refine yO (k := .i64) q i _ ah p xK a3 zo zk zk (qw (zV (pt ah (p + i * 4)) zf (qw (zV (pt ah ((p + i * 4) + 1)) zf (qw (zX ah ((p + i * 4) + 1) (I3 c.2.1) zk zf (a4 1 _ rfl) (qw (zV (pt b1 0) zf (qw (zX b1 0 (I3 lo) zk zf (zK d rfl) (qw (Lq_cmp .i32 c.2.1 lo (lo ≤ c.2.1) rfl (cmp_ge c.2.1 lo) zk zk ?_ ?_))))))))))))
    ·intro bc
     replace bc : lo ≤ c.2.1 := by omega
     refine qT (yM ?_)
     intro bo af
     refine zB (zT (yA (W_held 13 zk zk ?_)))
     intro ay ae
     refine ⟨fun w2 => Ch (fun k => k = b4) ay w2, ?_⟩
     have h : Ch (fun k => k = b4) ay ay := Ch.refl _ _
     refine hp 0 rfl q h (hp 1 rfl (N6 i) h ?_)
     have a := (a.below af).below ae
     have hz := (a.rd).at (k := 4) zj y
     obtain ⟨am, r, aw, a2⟩ := hz
     have b := zA (zA b af) ae
     have az := lies_ne aw a (a.ne b zi)
     refine ht 2 rfl (pt am (r + i * 4)) h (R_ixaddr (k := .i64) q i _ am r xK aw zo zk zk) (hp 3 rfl (pt am (r + i * 4)) h (ht 4 rfl (Value.agg #[(I3 c.1), (I3 c.2.1)]) h (R_loadA am (r + i * 4) [(I3 c.1), (I3 c.2.1)] zk zf zf (fun w2 h2 j u hj => cell_ch (elem_mid [] [(S c.2.2.1), (.bool c.2.2.2)] a2 rfl j u hj) h2 az)) ?_))
     refine hp 5 rfl q h (hp 6 rfl (N6 i) h ?_)
     have hz := (a.rd).at (k := 4) zj y
     obtain ⟨aj, s, av, a6⟩ := hz
     have ax := lies_ne av a (a.ne b zi)
     refine ht 7 rfl (pt aj (s + i * 4)) h (R_ixaddr (k := .i64) q i _ aj s xK av zo zk zk) (hp 8 rfl (pt aj ((s + i * 4) + 2)) h (ht 9 rfl (S c.2.2.1) h (R_load aj ((s + i * 4) + 2) (S c.2.2.1) zk zf (fun w2 h2 => cell_ch (a6 2 _ rfl) h2 ax)) ?_))
     refine H_storeA 10 b4 0 [(I3 c.1), (I3 c.2.1)] [(I3 0), (I3 0)] [(I3 c.1), (I3 c.2.1)] 29 rfl zk zk zk rfl zk b zk rfl ?_
     intro bx aa
     refine ⟨h.trans (Ch.of_wrote aa), ?_⟩
     have b := aa.here
     have aq := h.trans (Ch.of_wrote aa)
     refine hp 11 rfl (S c.2.2.1) aq (hp 12 rfl (.bool true) aq (H_done zk (zB (yB (yG (zP (zP (yG (zP (qI [.cell 4 29, .tmp 5, .tmp 6] [(Value.agg #[(I3 c.1), (I3 c.2.1)]), (S c.2.2.1), (.bool true)] rfl al ⟨⟨⟨b4, 0, none⟩, zk, wV [(I3 c.1), (I3 c.2.1)] zk zk (wE b)⟩, zk, zk, trivial⟩ ?_))))))))))
     have l := ((l.tr af).tr ae).trans (aa.below ag)
     exact ⟨tup3 (by (rw [meetsD_hit za i2 za zo zo]; done)) (congrArg S (by (rw [meetsD_hit za i2 za zo zo]; done))) (eb (by (rw [meetsD_hit za i2 za zo zo]; done))), l⟩
    intro bf
    replace bf : c.2.1 < lo := by omega
    refine qT (yM ?_)
    intro bq n
    refine zB (zF (zZ (zS (zB (zW (zG (vG i 1 (zI (zR ?_)))))))))
    have l := l.tr n
    have d := zA d n
    have b := zA b n
    have g := g.below n
    have a := a.below n
    have e := e.below n
    exact zB ⟨_, zo, (i + 1), rfl, al, zk, g, a, e, d, b, l, zo, noM_step i2 za zo⟩
   intro bb
   replace bb : hi < c.1 := by omega
   refine zY (qs (qs (qs (qs (qs (qs (qs (qs (qs (qF (yM ?_)))))))))))
   intro bk o
   refine zB (zF (zZ (zS (zB (zW (zG (vG i 1 (zI (zR ?_)))))))))
   have l := l.tr o
   have d := zA d o
   have b := zA b o
   have g := g.below o
   have a := a.below o
   have e := e.below o
   exact zB ⟨_, zo, (i + 1), rfl, al, zk, g, a, e, d, b, l, zo, noM_step i2 za zo⟩
  intro bl
  refine nQ (zF (yZ (yE (yE (yP (zB (wR (zr (Value.agg #[(I3 0), (I3 0)]) (qC [(I3 0), (I3 0)] b ?_)))))))))
  intro bp ao
  have b := ao.here
  refine zI (zI (nQ (yB (qI [.cell 4 29, .tmp 5, .tmp 6] [(Value.agg #[(I3 0), (I3 0)]), (S []), (.bool false)] rfl al ⟨⟨⟨b4, 0, none⟩, zk, wV [(I3 0), (I3 0)] zk zk (wE b)⟩, zk, zk, trivial⟩ ?_))))
  have l := l.trans (ao.below ag)
  exact ⟨tup3 (by (rw [meetsD_end za i2 zo]; done)) (congrArg S (by (rw [meetsD_end za i2 zo]; done))) (eb (by (rw [meetsD_end za i2 zo]; done))), l⟩
 intro bm
 have b := zA b ad
 refine znt false (nQ (zT (wR (zr (Value.agg #[(I3 0), (I3 0)]) (qC [(I3 0), (I3 0)] b ?_)))))
 intro bn ap
 have b := ap.here
 refine zI (zI (nQ (yB (zP (qI [.cell 4 29, .tmp 5, .tmp 6] [(Value.agg #[(I3 0), (I3 0)]), (S []), (.bool false)] rfl rfl ⟨⟨⟨b4, 0, none⟩, zk, wV [(I3 0), (I3 0)] zk zk (wE b)⟩, zk, zk, trivial⟩ ?_)))))
 have l := ((l.tr ac.below).tr ad).trans (ap.below ag)
 exact ⟨tup3 (by (rw [meetsD_no za]; done)) (congrArg S (by (rw [meetsD_no za]; done))) (eb (by (rw [meetsD_no za]; done))), l⟩
theorem c_sameD (o : Value) (ds : List (Int × Int × List UInt8 × Bool)) (n : Value) (es : List (Int × Int × List UInt8 × Bool)) (w : World) (h : Rd w encD o ds) (d : Rd w encD n es) (hln : ds.length ≤ 1073741824) (hok : OkD ds) (hln2 : es.length ≤ 1073741824) (hok2 : OkD es) :
  Calls Try.prog 81 #[o, n] w (Ret fun v w' => v = (.bool (decide (strF ds = strF es))) ∧ Below w.heap.size w w') := by
 refine wL 32 Try.func81 rfl ?_
 have j := Below.refl w.heap.size w
 have ae := vK hok
 have an := vK hok2
 refine wR (zI (nR (zG (zc (c_strF o ds _ h zo (by first | exact hok | exact hok2)) ?_))))
 rintro q1 w2 ⟨_, rfl, c, u⟩
 replace c := c.base j.size
 replace d := d.below u
 refine zI (nR (zG (zc (c_strF n es _ d zo (by first | exact hok | exact hok2)) ?_)))
 rintro q5 w6 ⟨_, rfl, g, r⟩
 replace j := j.tr u
 replace g := g.base j.size
 replace c := c.below r
 refine zI (nW (wR (zG (vI Try.underlying147 (c.rd).len (zG (vI Try.underlying147 (g.rd).len (nNe (((strF ds)).length) (((strF es)).length) ?_ ?_)))))))
 ·intro h9
  replace j := j.tr r
  exact nQ (zT (wR (zI (nQ (yB (zP (yJ [(.bool false)] ⟨eb (by exact (decide_eq_false (tk_len zo)).symm), j⟩)))))))
 intro ap
 refine nQ (zF (zZ (zB (yA (wR (zI (nQ (yC ?_))))))))
 replace j := j.tr r
 replace h := (h.below u).below r
 replace d := d.below r
 refine wH (fun m s0 w0 => ∃ (i : Nat), (m = (strF ds).length - i) ∧ (s0.ds = []) ∧ ([5, 6, 7].map s0.f = [q1, q5, (N6 i)]) ∧ (Rd w0 encD o ds) ∧ (Rd w0 encD n es) ∧ (Row w0 w.heap.size 183 4 encD q1 (strF ds)) ∧ (Row w0 w.heap.size 183 4 encD q5 (strF es)) ∧ (Below w.heap.size w w0) ∧ (i ≤ (strF ds).length) ∧ ((strF ds).length = (strF es).length) ∧ ((strF ds).take i = (strF es).take i)) _ ⟨0, rfl, zk, zk, h, d, c, g, j, (Nat.zero_le _), zo, rfl⟩ ?_
 rintro a1 aq ax ⟨i, hm, t, ae, h, d, c, g, j, i1, i2, i3⟩
 refine wF ae (yA (wR (zG (zG (vI Try.underlying147 (c.rd).len (nLt i (((strF ds)).length) ?_ ?_))))))
 ·intro ay
  refine nQ (zT (zZ (zB (yA (yC (yA (yV zk zk (zY (zY ?_)))))))))
  have s := yN (strF ds) i zo; obtain ⟨a, af⟩ := s
  have s := (c.rd).at (k := 4) zj af
  obtain ⟨aa, q, ac, ah⟩ := s
  refine yO (k := .i64) q1 i _ aa q xK ac zo zk zk (xU aa (q + i * 4) [(I3 a.1), (I3 a.2.1), (S a.2.2.1), (.bool a.2.2.2)] zk zf zf ah (zY (zY ?_)))
  have s := yN (strF es) i zo; obtain ⟨b, ai⟩ := s
  have s := (g.rd).at (k := 4) zj ai
  obtain ⟨ab, p, y, ag⟩ := s
  refine yO (k := .i64) q5 i _ ab p xK y zo zk zk (xU ab (p + i * 4) [(I3 b.1), (I3 b.2.1), (S b.2.2.1), (.bool b.2.2.2)] zk zf zf ag (Lq_aggne [(I3 a.1), (I3 a.2.1), (S a.2.2.1), (.bool a.2.2.2)] [(I3 b.1), (I3 b.2.1), (S b.2.2.1), (.bool b.2.2.2)] (a.1 == b.1 && a.2.1 == b.2.1 && a.2.2.1 == b.2.2.1 && a.2.2.2 == b.2.2.2) zk zk zk (eqagg183 a.1 a.2.1 a.2.2.1 a.2.2.2 b.1 b.2.1 b.2.2.1 b.2.2.2) ?_ ?_))
  ·intro au
   refine yM ?_
   intro a0 z
   replace j := j.tr z
   exact zB (zT (wR (zI (nQ (yB (yG (zP (zP (yG (zP (yJ [(.bool false)] (hd := t) ⟨eb (by exact (decide_eq_false (tk_at za za (fun e => by subst e; simp_all))).symm), j⟩)))))))))))
  intro ad
  replace ad : a.1 = b.1 ∧ a.2.1 = b.2.1 ∧ a.2.2.1 = b.2.2.1 ∧ a.2.2.2 = b.2.2.2 := by simpa [and_assoc] using ad
  refine yM ?_
  intro a2 l
  refine zB (zF (zZ (zS (zB (zW (zG (vG i 1 (zI (zR ?_)))))))))
  replace j := j.tr l
  replace h := h.below l
  replace d := d.below l
  replace c := c.below l
  replace g := g.below l
  refine zB ⟨_, zo, (i + 1), rfl, t, zk, h, d, c, g, j, zo, ?_, ?_⟩
  ·exact i2
  exact same_step i3 za za (by obtain ⟨e1, e2, e3, e4⟩ := ‹_ ∧ _ ∧ _ ∧ _›; exact st4 e1 e2 e3 e4)
 intro ar
 exact nQ (zF (yZ (yE (yE (yP (zB (wR (zI (nQ (yB (yJ [(.bool true)] (hd := t) ⟨eb (by exact (decide_eq_true (tk_all i3 i2 zo)).symm), j⟩)))))))))))
theorem c_overD (r : Value) (ds : List (Int × Int × List UInt8 × Bool)) (q : Value) (es : List (Int × Int × List UInt8 × Bool)) (w : World) (d : Rx w 0 187 4 encD r ds) (c : Rd w encD q es) (hln : ds.length ≤ 536870912) (hln2 : es.length ≤ 1073741824) (hok2 : OkD es) :
  Calls Try.prog 118 #[r, q] w (Ret fun v w' => ∃ (q0 : Value), v = q0 ∧ Rx w' w.heap.size 187 4 encD q0 (ovrD ds es) ∧ Below w.heap.size w w') := by
 refine wL 35 Try.func118 rfl ?_
 have t := Below.refl w.heap.size w
 have ah := vK hok2
 have am := strF_InS hok2
 have au := ptsF_len (strF es)
 have aw := gapF_len (strF es)
 have an := ptsF_InS am
 refine wR (zI (nR (zG (zI (nR (zG (zc (c_ptsF q es _ c zo (by exact hok2)) ?_)))))))
 rintro _ w3 ⟨q1, q2, rfl, a, e, ab⟩
 have a := a.base t.size
 have e := e.base t.size
 refine zG (zr q1 (zr q2 (zI (zI (nW (wR (zI (nQ (yC ?_)))))))))
 have t := t.tr ab
 have d := d.below ab
 have c := c.below ab
 refine wH (fun m s0 w0 => ∃ (i : Nat) (out : List DoneV) (s : Value), (m = (ptsF (strF es)).length - i) ∧ (s0.ds = []) ∧ ([4, 6, 5, 8].map s0.f = [(.slice none 0 0), q1, s, (N6 i)]) ∧ (Rd w0 encD q es) ∧ (Rx w0 0 187  4 encD r ds) ∧ (Row w0 w.heap.size 183 4 encD q1 (ptsF (strF es))) ∧ (Row w0 w.heap.size 183 4 encD q2 (gapF (strF es))) ∧ (Rx w0 0 187 4 encD s out) ∧ (Below w.heap.size w w0) ∧ (i ≤ (ptsF (strF es)).length) ∧ (out = ds ++ ((ptsF (strF es)).take i).map dnS) ∧ (out.length ≤ ds.length + i)) _ ⟨0, ds, r, rfl, zk, zk, c, d, a, e, d, t, (Nat.zero_le _), zi, (Nat.le_refl _)⟩ ?_
 rintro m6 s7 w8 ⟨i, out, s, hm, ak, ah, c, d, a, e, y, t, i1, i2, i3⟩
 refine wF ah (yA (wR (zG (zG (vI Try.underlying147 (a.rd).len (nLt i (((ptsF (strF es))).length) ?_ ?_))))))
 ·intro h9
  refine nQ (zT (zZ (zB (yA (yC (xY 14 zk zk zk ?_))))))
  intro aq j
  refine I_pre 0 12 14 2 zk zk zk zk zk zk zk zk zk (zY (zY (zY ?_)))
  have hz := yN (ptsF (strF es)) i zo; obtain ⟨b, u⟩ := hz
  have a := a.below j
  have hz := (a.rd).at (k := 4) zj u
  obtain ⟨aa, p, ai, ae⟩ := hz
  have al := an.at u
  refine yO (k := .i64) q1 i _ aa p xK ai zo zk zk (zV (pt aa (p + i * 4)) zf (xU aa (p + i * 4) [(I3 b.1), (I3 b.2.1)] zk zf zf (elem_mid [] [(S b.2.2.1), (.bool b.2.2.2)] ae rfl) (zY (zY ?_))))
  have hz := (a.rd).at (k := 4) zj u
  obtain ⟨z, o, ag, ad⟩ := hz
  refine yO (k := .i64) q1 i _ z o xK ag zo zk zk (zV (pt z ((o + i * 4) + 2)) zf (zX z ((o + i * 4) + 2) (S b.2.2.1) zk zf (ad 2 _ rfl) (zV (Value.agg #[(I3 b.1), (I3 b.2.1), (S b.2.2.1), (.bool false)]) zf (yM ?_))))
  intro ax h
  refine yF 12 zk (yL 12 rfl ?_ rfl)
  have y := (y.below j).below h
  refine zc (c_with s out b.1 b.2.1 b.2.2.1 false _ y.rd zo) ?_
  rintro aj ar ⟨_, rfl, n, l⟩
  have t := (t.tr j).tr h
  have n := n.base t.size
  refine zR ?_
  refine ⟨rfl, ip 13 rfl aj (yS zk (zS (zB (zW (zG (vG i 1 (zI (zR ?_))))))))⟩
  have t := t.tr l
  have d := ((d.below j).below h).below l
  have c := ((c.below j).below h).below l
  have a := (a.below h).below l
  have e := ((e.below j).below h).below l
  refine zB ⟨_, zo, (i + 1), (out ++ [(b.1, b.2.1, b.2.2.1, false)]), aj, rfl, ak, zk, c, d, a, e, n.rx, t, zo, ?_, ?_⟩
  ·rw [i2, List.append_assoc]; congr 1; exact dn_take (g := dnS) za
  (simp only [List.length_append, List.length_take, List.length_drop, List.length_cons, List.length_nil, List.length_set] <;> omega)
 intro av
 exact nQ (zF (yZ (yE (yE (yP (zB (wR (zG (zI (nQ (yB (yJ [s] (hd := ak) ⟨s, rfl, y.cast (by (rw [i2, List.take_of_length_le zo]; rfl)), t⟩))))))))))))
end Go.Proofs.Ythjgnnfonofgkaa
end

/- === FKau === -/
section
/- FKau: arrays in a struct, at a place that is a number: four maps, four lists, four marks. My own text. -/
namespace Go.FK
open Go Go.RowKit
def atW (x : Int) : Nat := (x % 4).toNat
theorem zJ (x : Int) : atW x < 4 := by unfold atW; omega
theorem and3_wrap (x : Int) : IntKind.i64.wrap ((BitVec.ofInt 64 x &&& BitVec.ofInt 64 3).toNat : Int) = (atW x : Int) := by
 have a : BitVec.ofInt 64 3 = BitVec.ofNat 64 3 := by simp
 rw [a, BitVec.toNat_and, BitVec.toNat_ofInt, BitVec.toNat_ofNat, Nat.mod_eq_of_lt (by omega : 3 < 2 ^ 64), Nat.and_two_pow_sub_one_eq_mod _ 2]
 have : (x % (2 ^ 64 : Nat)).toNat % 2 ^ 2 = atW x := by unfold atW; omega
 rw [this]
 have := zJ x
 exact xH _ (by omega) (by omega)
def wl (p r n : Nat → Value) : List Value := [p 0, p 1, p 2, p 3, r 0, r 1, r 2, r 3, n 0, n 1, n 2, n 3]
def up (f : Nat → Value) (k : Nat) (v : Value) : Nat → Value := fun i => if i = k then v else f i
def Dw (bw b : Nat) (v : Value) (k : Nat) : Prop := k = bw ∨ Dm b v k
theorem wT {f : Nat → Value} {k : Nat} {v : Value} (h : f k = v) : up f k v = f := by
 funext i
 unfold up
 split
 ·rename_i e; rw [e, h]
 ·rfl
theorem up_same (f : Nat → Value) (k : Nat) (v : Value) : up f k v k = v := if_pos rfl
section
variable {p q m : Nat → Value} {k : Nat}
theorem four {Q : Nat → Prop} (h : k < 4) (h0 : Q 0) (h1 : Q 1) (h2 : Q 2) (h3 : Q 3) : Q k := by
 match k, h with
 | 0, _ => exact h0
 | 1, _ => exact h1
 | 2, _ => exact h2
 | 3, _ => exact h3
theorem xP (h : k < 4) : (wl p q m).toArray[0 + k * 1]? = some (p k) := four (Q := fun k => (wl p q m).toArray[0 + k * 1]? = some (p k)) h rfl rfl rfl rfl
theorem wl_r (h : k < 4) : (wl p q m).toArray[4 + k * 1]? = some (q k) := four (Q := fun k => (wl p q m).toArray[4 + k * 1]? = some (q k)) h rfl rfl rfl rfl
theorem wO (h : k < 4) : (wl p q m).toArray[8 + k * 1]? = some (m k) := four (Q := fun k => (wl p q m).toArray[8 + k * 1]? = some (m k)) h rfl rfl rfl rfl
end
section ops
variable {r : Option Nat} {P : Program} {n : Nat} {Q : Post} {s : Fm} {w : World} {ops : Array Oper} {rest : List Oper} {K : Fm → Prop} {S : World → Prop} {g : Option (Nat × Bool)}
variable {d : Option Tmp} {ty : TypeId} {pos : String} {af : Array Edge}
theorem L_and3 {t yt : TypeId} {X Y : Operand} (x : Int) (hx : s.ev n X = .int .i64 x) (hy : s.ev n Y = .int .i64 3)
  (h : L r P n ops Q rest (s.put d (.int .i64 (atW x : Nat))) w) : L r P n ops Q (⟨d, .binOp .and t X Y yt, ty, pos, af, none⟩ :: rest) s w := by
 refine L_bin _ _ (.int .i64 (atW x : Nat)) hx hy (qA ..) ?_ h
 rw [← and3_wrap x]
 rfl
theorem ax_run {T E N : Nat} {k : IntKind} (b o i : Nat) (ht : P.underlying T = some (.array N E)) (he : (P.info? E).map (·.size) = some 1) (hi : i < N) :
  (Instr.indexAt T (.pointer (some ⟨b, o, none⟩)) (.int k i)).run P w = .ok (.pointer (some ⟨b, o + i * 1, none⟩)) w := by
 have hs : (sizeOf E).run P w = .ok 1 w := by
  cases hq : P.info? E with
  | none => rw [hq] at he; cases he
  | some j => rw [hq] at he; simp [sizeOf, typeInfo, hq, program, Sem.run_bind, Sem.run_pure, Sem.run, Option.some.inj he]
 have hb : (0 : Int) ≤ (i : Int) ∧ (i : Int) < (N : Int) := ⟨by omega, by omega⟩
 simp only [Instr.indexAt, asIntOf, Instr.sureAddr, Sem.run_bind, Sem.run_pure, Result.andThen_ok, run_underlying ht, hb, and_self, if_true, hs, Int.toNat_natCast, xZ]
theorem yY {X I : Operand} {k : IntKind} {T E N : Nat} (b o i : Nat) (ht : P.underlying T = some (.array N E)) (he : (P.info? E).map (·.size) = some 1) (hn : i < N) (hx : s.ev n X = .pointer (some ⟨b, o, none⟩)) (hi : s.ev n I = .int k i)
  (h : L r P n ops Q rest (s.put d (.pointer (some ⟨b, o + i * 1, none⟩))) w) : L r P n ops Q (⟨d, .indexAddr T X I, ty, pos, af, none⟩ :: rest) s w := by
 refine xM _ w (by simp) ?_ h
 simp only [execOp, hx, hi]
 rw [Sem.run_bind, ax_run b o i ht he hn]; rfl
theorem xI {X I : Operand} {k : IntKind} {T E N : Nat} (b o i : Nat) (ht : P.underlying T = some (.array N E)) (he : (P.info? E).map (·.size) = some 1) (hn : i < N) (hx : s.ev n X = .pointer (some ⟨b, o, none⟩)) (hi : s.ev n I = .int k i)
  (h : Lq P n ops w K rest (s.put d (.pointer (some ⟨b, o + i * 1, none⟩)))) : Lq P n ops w K (⟨d, .indexAddr T X I, ty, pos, af, none⟩ :: rest) s := by
 refine qS _ (fun w _ => ?_) h
 simp only [execOp, hx, hi]
 rw [Sem.run_bind, ax_run b o i ht he hn]; rfl
theorem R_ax {X I : Operand} {k : IntKind} {T E N : Nat} (b o i : Nat) (ht : P.underlying T = some (.array N E)) (he : (P.info? E).map (·.size) = some 1) (hn : i < N) (hx : s.ev n X = .pointer (some ⟨b, o, none⟩)) (hi : s.ev n I = .int k i) :
  RunOk P n ⟨d, .indexAddr T X I, ty, pos, af, g⟩ s S (.pointer (some ⟨b, o + i * 1, none⟩)) := by
 intro w' _
 simp only [execOp, hx, hi]
 rw [Sem.run_bind, ax_run b o i ht he hn]; rfl
end ops
theorem wl_lp {p q m : Nat → Value} {k : Nat} (h : k < 4) : 0 + k * 1 < (wl p q m).length := by show 0 + k * 1 < 12; omega
theorem wl_lr {p q m : Nat → Value} {k : Nat} (h : k < 4) : 4 + k * 1 < (wl p q m).length := by show 4 + k * 1 < 12; omega
theorem wl_ln {p q m : Nat → Value} {k : Nat} (h : k < 4) : 8 + k * 1 < (wl p q m).length := by show 8 + k * 1 < 12; omega
theorem wl_tp {p q m : Nat → Value} {k : Nat} (v : Value) (h : k < 4) : (wl p q m).set (0 + k * 1) v = wl (up p k v) q m := four (Q := fun k => (wl p q m).set (0 + k * 1) v = wl (up p k v) q m) h rfl rfl rfl rfl
theorem wl_tr {p q m : Nat → Value} {k : Nat} (v : Value) (h : k < 4) : (wl p q m).set (4 + k * 1) v = wl p (up q k v) m := four (Q := fun k => (wl p q m).set (4 + k * 1) v = wl p (up q k v) m) h rfl rfl rfl rfl
theorem wl_tn {p q m : Nat → Value} {k : Nat} (v : Value) (h : k < 4) : (wl p q m).set (8 + k * 1) v = wl p q (up m k v) := four (Q := fun k => (wl p q m).set (8 + k * 1) v = wl p q (up m k v)) h rfl rfl rfl rfl
end Go.FK
end
