/- FKag: a range over an iterator inside an iterator: the first round comes behind blocks of its own. My own text; W_rangeN is W_range (FKg) with one fact more handed on. -/
import Derived.Test.YthjgnnfonofgkaaFKaf
set_option linter.unusedVariables false
namespace Go.FK
open Go Go.RowKit
theorem Kp.trans {K0 K : Nat} {A B C : World} (h : Kp K0 K A B) (k : Kp K0 K B C) : Kp K0 K A C := ⟨Nat.le_trans h.size k.size, fun i hi => (k.same i hi).trans (h.same i hi)⟩
section
variable {P : Program} {n : Nat} {Q : Post} {s : Fm} {w : World}
theorem W_rangeN {α : Type} {g : Operand} {ps : List Tmp} {assign body : Code} (gf : FuncId) (lb : List Value) {encs : α → List Value} (els : List α) {N : World → Prop}
    (hg : s.ev n g = .func (.func gf) #[] lb.toArray) (eg : ∀ args w, (callFunc gf args).run P w = .ok (.enter gf args) w)
    (hit : Iter P gf lb encs els N) (hN : N w) (hNs : ∀ D A B, N A → Ch D A B → (∀ k, D k → w.heap.size ≤ k) → N B) (hps : ∀ x, (encs x).length = ps.length)
    (I : Nat → List α → World → Prop) (Ix : Nat → Code → List α → World → Prop)
    (h0 : ∀ A, Below w.heap.size w A → w.heap.size < A.heap.size → I A.heap.size [] A)
    (hI : ∀ K pre A B, I K pre A → Ch (Iv w.heap.size K) A B → I K pre B)
    (hIx : ∀ K c pre A B, Ix K c pre A → Ch (Iv w.heap.size K) A B → Ix K c pre B)
    (hround : ∀ l K pre x A, I K pre A → N A → w.heap.size ≤ K → K ≤ A.heap.size → pre ++ [x] <+: els →
      W (some l) P n assign (thenQ (fun s1 w1 => Kp w.heap.size K A w1 ∧ ∀ w2, Ch (Iv w.heap.size K) w1 w2 → W (some l) P n body (roundQ w.heap.size K I Ix N (pre ++ [x]) w2) s1 w2) (fun _ _ _ => False))
        ((⟨s.f, []⟩ : Fm).puts (ps.zip (encs x))) A)
    (hdone : ∀ K A, I K els A → w.heap.size ≤ A.heap.size → A.heap[w.heap.size]? = some (.deferred (some [])) → Q .normal ⟨s.f, ⟨.collected w.heap.size, #[]⟩ :: s.ds⟩ A)
    (hstop : ∀ K c pre x A, pre ++ [x] <+: els → Ix K c (pre ++ [x]) A → w.heap.size ≤ A.heap.size → A.heap[w.heap.size]? = some (.deferred (some [])) → W none P n c Q ⟨s.f, ⟨.collected w.heap.size, #[]⟩ :: s.ds⟩ A) :
    W none P n (.rangeFunc g ps.toArray assign body) Q s w := by
  refine W_iff.2 (wpIn_rangeFunc ?_)
  intro fn hfn
  obtain ⟨rec, hrec⟩ : ∃ rec : LoopState → Option Code → Loop, rec = fun st pe => { state := st, pending := pe, fn, tmps := (s.act n).tmps, params := ps.toArray, assign, body, defers := w.heap.size } := ⟨_, rfl⟩
  obtain ⟨W1, hW1⟩ : ∃ W1, (w.alloc (.deferred (some []))).alloc (.loop (rec .ready none)) = W1 := ⟨_, rfl⟩
  have hsz1 : W1.heap.size = w.heap.size + 2 := by rw [← hW1]; simp
  have hL1 : W1.heap[w.heap.size + 1]? = some (.loop (rec .ready none)) := by
    rw [← hW1]; have := World.alloc_heap_new (w.alloc (.deferred (some []))) (.loop (rec .ready none)); rwa [World.size_alloc] at this
  have hK1 : W1.heap[w.heap.size]? = some (.deferred (some [])) := by
    rw [← hW1]; exact (Below.heap_alloc _ _ _ (by simp)).trans (World.alloc_heap_new w _)
  have hb1 : Below w.heap.size w W1 := by
    rw [← hW1]; exact ((Below.refl _ w).alloc (Nat.le_refl _) _).alloc (by simp) _
  refine ⟨w.heap.size + 1, [{ target := .collected w.heap.size, args := #[] }], W1, { target := .fn (.func gf) lb.toArray, args := #[.func (.yield (w.heap.size + 1)) #[] #[]] }, W1, gf,
    #[.func (.yield (w.heap.size + 1)) #[] #[]] ++ lb.toArray, W1, ?_, ?_, ?_, ?_, fun hx => by simp [Fw] at hx, ?_⟩
  · rw [← hW1, hrec]; exact run_enterLoop_outer _ _ _ _ _
  · rw [act_eval]
    simp only [resolve, List.map_toArray, List.map_cons, List.map_nil, hg]
    rfl
  · intro f' _; trivial
  · simp only [invoke, eg]
  · have hN1 : N W1 := hNs _ _ _ hN ((Ch.of_below hb1)) (fun _ h => h.elim)
    have hput : ∀ (K : Nat) (A : World) (k : Nat) (o o' : Obj), A.heap[k]? = some o → Iv w.heap.size K k → Ch (Iv w.heap.size K) A (A.putObj k o') := fun K A k o o' hk hiv =>
      ⟨rfl, rfl, rfl, by simp [World.putObj], fun j _ hn => World.putObj_heap_other (fun e => hn (e ▸ hiv))⟩
    have hivm : ∀ {K k : Nat}, Iv W1.heap.size K k → Iv w.heap.size K k := fun h => ⟨by have := h.1; omega, h.2⟩
    have hcall := hit (w.heap.size + 1)
      (fun K pre A => I K pre A ∧ w.heap.size + 2 ≤ K ∧ A.heap[w.heap.size + 1]? = some (.loop (rec .ready none)) ∧ A.heap[w.heap.size]? = some (.deferred (some [])))
      (fun K pre A => ∃ c, Ix K c pre A ∧ w.heap.size + 2 ≤ K ∧ A.heap[w.heap.size + 1]? = some (.loop (rec .done (some c))) ∧ A.heap[w.heap.size]? = some (.deferred (some [])))
      W1 hN1
      (fun A hA => ⟨h0 A (hb1.trans (hA.mono (by omega))) (by have := hA.size; omega), by have := hA.size; omega, (hA.block _ (by omega)).trans hL1, (hA.block _ (by omega)).trans hK1⟩)
      (fun K pre A B hs hc => ⟨hI K pre A B hs.1 (hc.mono fun k h => hivm h), hs.2.1, obj_ch hs.2.2.1 hc (fun h => by have := h.1; omega), obj_ch hs.2.2.2 hc (fun h => by have := h.1; omega)⟩)
      (fun K pre A B hs hc => by
        obtain ⟨c, h1, h2, h3, h4⟩ := hs
        exact ⟨c, hIx K c pre A B h1 (hc.mono fun k h => hivm h), h2, obj_ch h3 hc (fun h => by have := h.1; omega), obj_ch h4 hc (fun h => by have := h.1; omega)⟩)
      ?_
    · refine CallsIn.mono (calls_fw.2 (by simpa using hcall)) ?_
      rintro e W2 ⟨v, rfl, hsz, (⟨K, hi, h2, hl, hk⟩ | ⟨K, pre, x, hpre, c, hi, h2, hl, hk⟩)⟩
      · refine ⟨none, _, by have := run_endLoop (P := P) hl (by rw [hrec]; simp); rw [hrec] at this; exact this, ?_⟩
        have hp := hput K W2 (w.heap.size + 1) _ (.loop { rec .ready none with state := .exhausted }) hl ⟨by omega, by omega⟩
        rw [hrec] at hp
        exact ⟨⟨s.f, _⟩, rfl, hdone K _ (hI _ _ _ _ hi hp) (Nat.le_trans (show w.heap.size ≤ W2.heap.size by omega) hp.size) ((World.putObj_heap_other (by omega)).trans hk)⟩
      · refine ⟨some c, _, by have := run_endLoop (P := P) hl (by rw [hrec]; simp); rw [hrec] at this; exact this, ?_⟩
        have hp := hput K W2 (w.heap.size + 1) _ (.loop { rec .done (some c) with state := .exhausted }) hl ⟨by omega, by omega⟩
        rw [hrec] at hp
        exact W_iff.1 (hstop K c pre x _ hpre (hIx _ _ _ _ _ hi hp) (Nat.le_trans (show w.heap.size ≤ W2.heap.size by omega) hp.size) ((World.putObj_heap_other (by omega)).trans hk))
    · -- one round
      rintro K pre x A ⟨hi, h2, hl, hk⟩ hNA hK0 hKA hpre
      have hiv1 : Iv w.heap.size K (w.heap.size + 1) := ⟨by omega, by omega⟩
      have hiv0 : Iv w.heap.size K w.heap.size := ⟨Nat.le_refl _, by omega⟩
      have hlt : w.heap.size + 1 < A.heap.size := obj_lt hl
      have hy := run_yield (P := P) (args := (encs x).toArray) hl (by rw [hrec]; simpa using hps x)
      rw [hrec] at hy
      refine ⟨fn, _, assign, body, hy, roundIn_of_wpIn hfn ?_⟩
      have hfr : (({ tmps := (Array.zip ps.toArray (encs x).toArray).foldl (fun tmps (t, a) => tmps.setIfInBounds t a) (s.act n).tmps, defers := [] } : Act)) = ((⟨s.f, []⟩ : Fm).puts (ps.zip (encs x))).act n := by
        have e := puts_act n (ps.zip (encs x)) ⟨s.f, []⟩
        have e2 : (s.act n).tmps = ((⟨s.f, []⟩ : Fm).act n).tmps := rfl
        rw [e2]
        have e3 : (Array.zip ps.toArray (encs x).toArray) = (ps.zip (encs x)).toArray := by simp
        rw [e3]
        show Act.mk _ _ = Act.mk _ _
        congr 1
        · rw [List.foldl_toArray]; exact e
        · exact (puts_ds (ps.zip (encs x)) ⟨s.f, []⟩).symm
      rw [hfr]
      refine wpIn_mono (W_iff.1 (hround (w.heap.size + 1) K pre x A hi hNA (by omega) hKA hpre)) ?_
      rintro e a1 w1 ⟨s1, rfl, hs1⟩
      cases e with
      | normal =>
        obtain ⟨hkp, hbody⟩ := hs1
        have hl1 : w1.heap[w.heap.size + 1]? = some (.loop (rec .ready none)) := (hkp.same _ hiv1).trans hl
        have hk1 : w1.heap[w.heap.size]? = some (.deferred (some [])) := (hkp.same _ hiv0).trans hk
        refine ⟨_, run_beginRound hl1 (by rw [hrec]), ?_⟩
        have hp := hput K w1 (w.heap.size + 1) _ (.loop { rec .ready none with state := .busy }) hl1 hiv1
        have hl2 : (w1.putObj (w.heap.size + 1) (.loop { rec .ready none with state := .busy })).heap[w.heap.size + 1]? = some (.loop { rec .ready none with state := .busy }) := World.putObj_heap_same (obj_lt hl1)
        have hk2 : (w1.putObj (w.heap.size + 1) (.loop { rec .ready none with state := .busy })).heap[w.heap.size]? = some (.deferred (some [])) := (World.putObj_heap_other (by omega)).trans hk1
        refine wpIn_mono (W_iff.1 (hbody _ hp)) ?_
        have fin : ∀ (jump : Option Code) (W3 : World), Kp w.heap.size K (w1.putObj (w.heap.size + 1) (.loop { rec .ready none with state := .busy })) W3 →
            (Instr.endRound (w.heap.size + 1) jump).run P W3 = .ok (.bool jump.isNone) (W3.putObj (w.heap.size + 1) (.loop (rec (if jump.isNone then .ready else .done) jump))) ∧
            (W3.putObj (w.heap.size + 1) (.loop (rec (if jump.isNone then .ready else .done) jump))).heap[w.heap.size + 1]? = some (.loop (rec (if jump.isNone then .ready else .done) jump)) ∧
            (W3.putObj (w.heap.size + 1) (.loop (rec (if jump.isNone then .ready else .done) jump))).heap[w.heap.size]? = some (.deferred (some [])) ∧
            Ch (Iv w.heap.size K) W3 (W3.putObj (w.heap.size + 1) (.loop (rec (if jump.isNone then .ready else .done) jump))) ∧
            Kp W1.heap.size K A (W3.putObj (w.heap.size + 1) (.loop (rec (if jump.isNone then .ready else .done) jump))) := fun jump W3 hk3 => by
          have hl3 := (hk3.same _ hiv1).trans hl2
          have hr := run_endRound (P := P) jump hl3
          rw [hrec] at hr ⊢
          refine ⟨hr, World.putObj_heap_same (obj_lt hl3), (World.putObj_heap_other (by omega)).trans ((hk3.same _ hiv0).trans hk2), hput K W3 _ _ _ hl3 hiv1, ⟨?_, fun k hkk => ?_⟩⟩
          · have h1 := hkp.size; have h2 := hp.size; have h3 := hk3.size
            simp only [World.putObj, Array.size_setIfInBounds] at h2 h3 ⊢
            omega
          · have hkne : k ≠ w.heap.size + 1 := by have := hkk.1; omega
            have hkk' : Iv w.heap.size K k := hivm hkk
            exact (World.putObj_heap_other hkne).trans ((hk3.same k hkk').trans ((World.putObj_heap_other hkne).trans (hkp.same k hkk')))
        rintro e3 a3 W3 ⟨s3, rfl, hq3⟩
        cases e3 with
        | normal =>
          obtain ⟨hk3, hi3, hN3⟩ := hq3
          obtain ⟨hr, hl4, hk4, hc4, hkp4⟩ := fin none W3 hk3
          exact ⟨_, _, hr, .inl ⟨rfl, ⟨hI _ _ _ _ hi3 hc4, h2, hl4, hk4⟩, hkp4, hNs _ _ _ hN3 hc4 (fun k h => h.1)⟩⟩
        | ret =>
          obtain ⟨hk3, hi3⟩ := hq3
          obtain ⟨hr, hl4, hk4, hc4, hkp4⟩ := fin (some .ret) W3 hk3
          exact ⟨_, _, hr, .inr ⟨rfl, ⟨.ret, hIx _ _ _ _ _ hi3 hc4, h2, hl4, hk4⟩, hkp4⟩⟩
        | exit id =>
          obtain ⟨hk3, hi3⟩ := hq3
          obtain ⟨hr, hl4, hk4, hc4, hkp4⟩ := fin (some (.exit id)) W3 hk3
          exact ⟨_, _, hr, .inr ⟨rfl, ⟨.exit id, hIx _ _ _ _ _ hi3 hc4, h2, hl4, hk4⟩, hkp4⟩⟩
        | goto t =>
          obtain ⟨hk3, hi3⟩ := hq3
          obtain ⟨hr, hl4, hk4, hc4, hkp4⟩ := fin (some (.goto t)) W3 hk3
          exact ⟨_, _, hr, .inr ⟨rfl, ⟨.goto t, hIx _ _ _ _ _ hi3 hc4, h2, hl4, hk4⟩, hkp4⟩⟩
        | panic _ => exact hq3.elim
        | outgrown => exact hq3.elim
      | _ => exact hs1.elim
end
end Go.FK
