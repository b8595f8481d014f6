/- Joined by my program pack2.py out of my own texts: FKak Wmbl8 FKam Wcb3 An Wcb4 Wcb5 Wcb6 Wcb10 FKbe. -/
import Derived.Lib.AppendStr
import Derived.Test.YtddnhlobnembaaaGreatDoorProg
import Derived.Tactics2
import Derived.WalkKit
import Derived.LaidEql
import Derived.Stop.Asserts
import Derived.RowKitTokens
import Derived.Test.YtddnhlobnembaaaGreatDoorR1
import Derived.Test.YtddnhlobnembaaaGreatDoorR2
import Derived.Test.YtddnhlobnembaaaGreatDoorR3
set_option linter.unusedVariables false
set_option linter.unusedSimpArgs false
/- === FKak === -/
section
/- FKak: a strings.Builder as a struct with a row of bytes of its own: it may be written in rounds of ranges too. My own text. -/
namespace Go.FK
open Go Go.RowKit
def encByt (c : UInt8) : List Value := [.int .u8 ((c.toNat : Nat) : Int)]
theorem byt_cells (l : List UInt8) : l.flatMap encByt = Lib.strCells ⟨l.toArray⟩ := by
 show l.flatMap encByt = l.map fun b => Value.int .u8 b.toNat
 induction l with
 | nil => rfl
 | cons c l ih => rw [List.flatMap_cons, ih]; rfl
theorem byt_byte (l : List UInt8) : l.flatMap encByt = Lib.byteCells l := by
 induction l with
 | nil => rfl
 | cons c l ih => rw [List.flatMap_cons, ih]; rfl
section ops
variable {r : Option Nat} {P : Program} {n : Nat} {Q : Post} {s : Fm} {w : World} {ops : Array Oper} {rest : List Oper}
variable {d : Option Tmp} {ty : TypeId} {pos : String} {af : Array Edge} {T U E B : Nat} {l : List UInt8} {v : Value}
theorem L_appStrR {A X : Operand} (x : List UInt8) (ht : P.underlying T = some (.slice E)) (hu : P.underlying U = some .string) (hi : (P.info? E).map (fun i => (i.zero, i.size, i.bytes)) = some (some (.int .u8 0), 1, 1))
  (hrow : Row w B E 1 encByt v l) (hl : l.length ≤ 1073741824) (hx : x.length ≤ 1073741824) (hB : B ≤ w.heap.size) (hA : s.ev n A = v) (hX : s.ev n X = S x)
  (h : ∀ v' w', Row w' B E 1 encByt v' (l ++ x) → w.grownBy w' v.ownBlock → (v'.ownBlock = v.ownBlock ∨ v'.ownBlock = some w.heap.size) → L r P n ops Q rest (s.put d v') w') :
  L r P n ops Q (⟨d, .call ⟨.builtin .append, #[A, X], #[T, U]⟩, ty, pos, af, none⟩ :: rest) s w := by
 obtain ⟨i, hq, hz, b, a⟩ := info_u8 hi
 have hsz : (⟨x.toArray⟩ : ByteArray).size = x.length := by show x.toArray.size = _; simp
 have hown : w.ownsRow B E 1 v l.length (l.flatMap encByt) := hrow
 obtain ⟨v', w', hrun, hown', hg, hnil⟩ := Lib.run_append_own_string (P := P) w B T U ty E i ht hu hq hz b a v l.length (l.flatMap encByt) hown ⟨x.toArray⟩ (by rw [hsz]; unfold maxLen; omega) (by rw [hsz]; omega) hB
 have how : v'.ownBlock = v.ownBlock ∨ v'.ownBlock = some w.heap.size := by
  rcases hown.2 with ⟨rfl, _⟩ | ⟨g, cap, cur, rfl, _, hh, hnc, _, hcs, _⟩
  ·by_cases c : (⟨x.toArray⟩ : ByteArray).size = 0
   ·rw [hnil.2 ⟨rfl, c⟩]; exact .inl rfl
   ·have hr := run_append_nil_string (P := P) w T U ty E i (.int .u8 0) ht hu hq hz ⟨x.toArray⟩ (by omega) (by rw [hsz]; omega) (by rw [hsz, a]; omega)
    rw [hr] at hrun; injection hrun with e1 _; rw [← e1]; exact .inr rfl
  ·by_cases hroom : l.length + (⟨x.toArray⟩ : ByteArray).size ≤ cap
   ·have hr := Lib.run_append_room_string (P := P) w T U ty E i ht hu hq b g l.length cap cur hh ⟨x.toArray⟩ hroom (by omega)
    rw [hr] at hrun; injection hrun with e1 _; rw [← e1]; exact .inl rfl
   ·have hr := Lib.run_append_grow_string (P := P) w T U ty E i (.int .u8 0) ht hu hq hz ⟨g, 0, none⟩ l.length cap (l.flatMap encByt) (by rw [b]; exact hown.1) (hown.cells (g := g) rfl) ⟨x.toArray⟩ (by omega) (by rw [hsz]; omega) (by rw [a]; exact growslice_fits (by omega) (by omega))
    rw [hr] at hrun; injection hrun with e1 _; rw [← e1]; exact .inr rfl
 refine xN v' w' (by simp) ?_ (h v' w' ?_ hg how)
 ·have hX' : s.ev n X = .string ⟨x.toArray⟩ := hX
  simp only [execOp, resolve, invoke, builtin, Sem.run_bind, Sem.run_pure, Result.andThen_ok, List.map_toArray, List.map_cons, List.map_nil, hA, hX', hrun]
 ·rw [hsz] at hown'
  show w'.ownsRow B E 1 v' (l ++ x).length ((l ++ x).flatMap encByt)
  rw [List.length_append, List.flatMap_append, byt_cells x]
  exact hown'
end ops
section
variable {T E B b : Nat} {l : List UInt8} {w w1 : World} {p v : Value}
theorem copy2 (hcc : (w1 = w ∧ p = .pointer (some ⟨b, 0, none⟩)) ∨ Wrote w w1 b (.cells [.pointer (some ⟨b, 0, none⟩), v].toArray T (0, 0)))
  (ho : w.heap[b]? = some (.cells [p, v].toArray T (0, 0))) : w1.heap[b]? = some (.cells [.pointer (some ⟨b, 0, none⟩), v].toArray T (0, 0)) ∧ Ch (fun k => k = b) w w1 := by
 rcases hcc with ⟨rfl, rfl⟩ | hW
 ·exact ⟨ho, Ch.refl _ _⟩
 ·exact ⟨hW.here, Ch.of_wrote hW⟩
theorem Bld.ofRow (hp : p = .pointer none ∨ p = .pointer (some ⟨b, 0, none⟩)) (ho : w.heap[b]? = some (.cells [p, v].toArray T (0, 0))) (hr : Row w B E 1 encByt v l) (hB : B ≤ b) (hne : v.ownBlock ≠ some b) : Bld T E B b l w := by
 have hown : w.ownsRowF B E 1 v (Lib.byteCells l).length (Lib.byteCells l) := by
  have h : w.ownsRow B E 1 v l.length (l.flatMap encByt) := hr
  rw [byt_byte] at h
  rw [byteCells_len]
  exact World.ownsRowF_of h
 rcases hp with rfl | rfl
 ·exact .inl ⟨hB, v, ho, hown, hne⟩
 ·exact .inr ⟨hB, v, ho, hown, hne⟩
end
end Go.FK
end

/- === Wmbl8 === -/
section
/- Walks, written by my program walk.py out of the specification mbl8.py: each theorem says what one function returns and that it leaves memory as it was. -/
namespace Go.Proofs.YtddnhlobnembaaaGreatDoor
open Go Go.RowKit Go.FK _root_.Go.Proofs.Tryz
set_option maxHeartbeats 4000000
set_option maxRecDepth 100000
theorem bl_copy0 (b : Nat) (v : Value) (w : World) (ho : w.heap[b]? = some (.cells [(.pointer none), v].toArray 99 (0, 0))) :
  Calls Tryz.prog 78 #[(pt b 0)] w (Ret fun v1 d => v1 = (.tuple #[]) ∧ Wrote w d b (.cells [(pt b 0), v].toArray 99 (0, 0))) := by
 refine wG 20 func78 rfl ?_
 have e := Below.refl w.heap.size w
 have c : w.heap.size ≤ w.heap.size := Nat.le_refl _
 refine wR (zH (zr (pt b 0) (zFO 0 ho rfl (zr (.bool true) (nQ (zT (zV (zH (zH (L_toUns (k := 2) b underlying96 underlying153 zk zk ho zk zk (zr (pt b 0) (L_fromUns (k := 2) b underlying153 underlying96 zk ho zk zk (zr (pt b 0) (zr (pt b 0) (z1 0 (pt b 0) [(pt b 0), v] ho ?_)))))))))))))))
 intro d a
 replace c := Nat.le_trans c (Nat.le_of_eq a.size.symm)
 replace ho := a.here
 refine zS (znrm [] ?_)
 exact ⟨rfl, a⟩
theorem bl_copy1 (b : Nat) (v : Value) (w : World) (ho : w.heap[b]? = some (.cells [(pt b 0), v].toArray 99 (0, 0))) :
  Calls Tryz.prog 78 #[(pt b 0)] w (Ret fun v1 w1 => v1 = (.tuple #[]) ∧ w1 = w) := by
 refine wG 20 func78 rfl ?_
 have a := Below.refl w.heap.size w
 refine wR (zH (zr (pt b 0) (zFO 0 ho rfl (zr (.bool false) (nQ (zF (wR (zH (zr (pt b 0) (zFO 0 ho rfl (zH (L_pneF (k := 2) b underlying96 zk zk zk zk (nQ (zF (zP (znrm [] ?_))))))))))))))))
 exact ⟨rfl, rfl⟩
theorem bl_copy (b : Nat) (p v : Value) (w : World) (hp : p = .pointer none ∨ p = (pt b 0)) (ho : w.heap[b]? = some (.cells [p, v].toArray 99 (0, 0))) :
  Calls Tryz.prog 78 #[(pt b 0)] w (Ret fun v1 a => v1 = (.tuple #[]) ∧ ((a = w ∧ p = (pt b 0)) ∨ Wrote w a b (.cells [(pt b 0), v].toArray 99 (0, 0)))) := by
 rcases hp with rfl | rfl
 ·refine (bl_copy0 b v w ho).mono ?_
  rintro e a ⟨u, rfl, rfl, h⟩
  exact ⟨_, rfl, rfl, .inr h⟩
 refine (bl_copy1 b v w ho).mono ?_
 rintro e a ⟨u, rfl, rfl, h⟩
 exact ⟨_, rfl, rfl, .inl ⟨h, rfl⟩⟩
theorem bd_WriteString (a : Nat) (p : Value) (f : Value) (l : List (UInt8)) (x : List UInt8) (B_ : Nat) (w : World) (hs0 : B_ ≤ w.heap.size) (c : w.heap[a]? = some (.cells [p, f].toArray 99 (0, 0))) (y : B_ ≤ a) (b : Row w B_ 5 1 encByt f l) (hp : p = .pointer none ∨ p = .pointer (some ⟨a, 0, none⟩)) (hl : l.length ≤ 1073741824) (hx : x.length ≤ 1073741824) :
  Calls Tryz.prog 44 #[(pt a 0), (S x)] w (Ret fun v w' => ∃ q0 : Value, v = (.tuple #[(N6 x.length), .nilIface]) ∧ w'.heap[a]? = some (.cells [(pt a 0), q0].toArray 99 (0, 0)) ∧ Row w' B_ 5 1 encByt q0 (l ++ x) ∧ (∀ g, Value.ownBlock q0 = some g → w.heap.size ≤ g ∨ (Dm a f) g) ∧ Ch (Dm a f) w w') := by
 refine wG 19 func44 rfl ?_
 have t := Below.refl B_ w
 have n : B_ ≤ (World.heap w).size := hs0
 have o := Ch.refl (Dm a f) w
 have q : (World.heap w).size ≤ a ∨ (Dm a f) a := .inr (.inl rfl)
 have d : ∀ g, Value.ownBlock f = some g → (World.heap w).size ≤ g ∨ (Dm a f) g := fun g h => .inr (.inr h)
 refine wR (zI (zI (nR (zH (zc (bl_copy a p f _ hp c) ?_)))))
 rintro _ w1 ⟨rfl, u⟩
 have hz := copy2 u c; obtain ⟨aa, m⟩ := hz
 have t := m.below t n (fun k e => e ▸ y)
 have b := b.ch m (fun g hg e => (b.ne c zi) (by rw [hg, e]))
 replace n := Nat.le_trans n m.size
 have c := aa
 refine nR (zH (zH (zr (pt a 0) (zFO 1 c rfl (zH (L_appStrR (l := l) x underlying97 underlying9 zk b zo zo n zk zk ?_))))))
 intro v2 w3 z j s 
 replace o := o.trans2 m (fun k e => e ▸ q)
 have r := dr_app (D := (Dm a f)) s (by have h0 := o.size; omega : (World.heap w).size ≤ (World.heap w1).size) d
 have t := t.tg n j b
 replace n := Nat.le_trans n (j.size)
 have c := yB c j (b.ne c zi)
 have b := z
 replace o := o.trans2 (Ch.of_grown j) (fun k e => d k e)
 have d := r; clear r
 refine zr (pt a 0) (zr (pt a 1) (wF a 1 v2 [(pt a 0), f] [(pt a 0), v2] 99 zk zk b.one zk c zi rfl ?_))
 intro w7 i
 replace n := Nat.le_trans n (Nat.le_of_eq i.size.symm)
 have b := b.wrote i (b.ne c zi)
 have c := i.here
 refine nR (zH (zsl 9 x (zI (zI (nQ (zW (yF [(N6 ((x).length)), .nilIface] ?_)))))))
 have hE : ((x).length = x.length) ∧ ((l ++ x) = (l ++ x)) := ⟨(by rfl), (by rfl)⟩
 replace o := o.trans2 (Ch.of_wrote i) (fun k e => e ▸ q)
 exact ⟨_, xO (congrArg (fun x : Nat => Value.int .i64 (x : Int)) hE.1) (rfl), c, b.cast hE.2, d, o⟩
end Go.Proofs.YtddnhlobnembaaaGreatDoor
end

/- === FKam === -/
section
/- FKam: iterators whose elements are known by a predicate alone (their values may lie in memory that the iterator makes), with a fact on memory at each yield: as FKg's Iter and FKah's Iter2, written out of them by my program genfkam.py. -/
namespace Go.FK
open Go Go.RowKit
def IterP {α : Type} (P : Program) (g : FuncId) (lb : List Value) (encs : α → List Value) (ok fin : List α → Prop) (mem : Nat → α → World → Prop) (N : World → Prop) : Prop :=
  ∀ (l : Nat) (J Jx : Nat → List α → World → Prop) (w : World), N w →
    (∀ A, Below w.heap.size w A → J A.heap.size [] A) →
    (∀ K pre A B, J K pre A → Ch (Iv w.heap.size K) A B → J K pre B) →
    (∀ K pre A B, Jx K pre A → Ch (Iv w.heap.size K) A B → Jx K pre B) →
    (∀ K pre x A, J K pre A → N A → w.heap.size ≤ K → K ≤ A.heap.size → ok (pre ++ [x]) → mem K x A → YieldAt (Fw none) 0 P l (encs x).toArray A fun e A' =>
      (e = .returned (.bool true) ∧ J K (pre ++ [x]) A' ∧ Kp w.heap.size K A A' ∧ N A') ∨ (e = .returned (.bool false) ∧ Jx K (pre ++ [x]) A' ∧ Kp w.heap.size K A A')) →
    Calls P g (.func (.yield l) #[] #[] :: lb).toArray w (Ret fun _ w' => w.heap.size ≤ w'.heap.size ∧ ((∃ K l, fin l ∧ J K l w') ∨ (∃ K pre x, ok (pre ++ [x]) ∧ Jx K (pre ++ [x]) w')))
def IterP2 {α : Type} (P : Program) (g : FuncId) (lb : List Value) (encs : α → List Value) (ok fin : List α → Prop) (mem : Nat → α → World → Prop) (N : World → Prop) : Prop :=
  ∀ (l : Nat) (J Jx : Nat → List α → World → Prop) (w : World), N w →
    (∀ A, Below w.heap.size w A → J A.heap.size [] A) →
    (∀ K pre A B, J K pre A → Ch (Iv w.heap.size K) A B → J K pre B) →
    (∀ K pre A B, Jx K pre A → Ch (Iv w.heap.size K) A B → Jx K pre B) →
    (∀ K pre x A0 A, J K pre A0 → Ch (Iv w.heap.size K) A0 A → N A → w.heap.size ≤ K → K ≤ A0.heap.size → ok (pre ++ [x]) → mem A0.heap.size x A → YieldAt (Fw none) 0 P l (encs x).toArray A fun e A' =>
      (e = .returned (.bool true) ∧ J K (pre ++ [x]) A' ∧ Kp w.heap.size K A A' ∧ Kp A0.heap.size A.heap.size A A' ∧ N A') ∨ (e = .returned (.bool false) ∧ Jx K (pre ++ [x]) A' ∧ Kp w.heap.size K A A')) →
    Calls P g (.func (.yield l) #[] #[] :: lb).toArray w (Ret fun _ w' => w.heap.size ≤ w'.heap.size ∧ ((∃ K l, fin l ∧ J K l w') ∨ (∃ K pre x, ok (pre ++ [x]) ∧ Jx K (pre ++ [x]) w')))
section
variable {P : Program} {n : Nat} {Q : Post} {s : Fm} {w : World}
theorem W_rangeP {α : Type} {g : Operand} {ps : List Tmp} {assign body : Code} (gf : FuncId) (lb : List Value) {encs : α → List Value} (ok fin : List α → Prop) (mem : Nat → α → World → Prop) {N : World → Prop}
  (hg : s.ev n g = .func (.func gf) #[] lb.toArray) (eg : ∀ args w, (callFunc gf args).run P w = .ok (.enter gf args) w)
  (hit : IterP P gf lb encs ok fin mem N) (hN : N w) (hNs : ∀ D A B, N A → Ch D A B → (∀ k, D k → w.heap.size ≤ k) → N B) (hps : ∀ x, (encs x).length = ps.length)
  (I : Nat → List α → World → Prop) (Ix : Nat → Code → List α → World → Prop)
  (h0 : ∀ A, Below w.heap.size w A → I A.heap.size [] A)
  (hI : ∀ K pre A B, I K pre A → Ch (Iv w.heap.size K) A B → I K pre B)
  (hIx : ∀ K c pre A B, Ix K c pre A → Ch (Iv w.heap.size K) A B → Ix K c pre B)
  (hround : ∀ l K pre x A, I K pre A → N A → w.heap.size ≤ K → K ≤ A.heap.size → ok (pre ++ [x]) → mem K x A →
   W (some l) P n assign (thenQ (fun s1 w1 => Kp w.heap.size K A w1 ∧ ∀ w2, Ch (Iv w.heap.size K) w1 w2 → W (some l) P n body (roundQ w.heap.size K I Ix N (pre ++ [x]) w2) s1 w2) (fun _ _ _ => False))
    ((⟨s.f, []⟩ : Fm).puts (ps.zip (encs x))) A)
  (hdone : ∀ K l A, fin l → I K l A → w.heap.size ≤ A.heap.size → A.heap[w.heap.size]? = some (.deferred (some [])) → Q .normal ⟨s.f, ⟨.collected w.heap.size, #[]⟩ :: s.ds⟩ A)
  (hstop : ∀ K c pre x A, ok (pre ++ [x]) → Ix K c (pre ++ [x]) A → w.heap.size ≤ A.heap.size → A.heap[w.heap.size]? = some (.deferred (some [])) → W none P n c Q ⟨s.f, ⟨.collected w.heap.size, #[]⟩ :: s.ds⟩ A) :
  W none P n (.rangeFunc g ps.toArray assign body) Q s w := by
 refine W_iff.2 (wpIn_rangeFunc ?_)
 intro fn hfn
 obtain ⟨rec, hrec⟩ : ∃ rec : LoopState → Option Code → Loop, rec = fun st pe => { state := st, pending := pe, fn, tmps := (s.act n).tmps, params := ps.toArray, assign, body, defers := w.heap.size } := ⟨_, rfl⟩
 obtain ⟨W1, y⟩ : ∃ W1, (w.alloc (.deferred (some []))).alloc (.loop (rec .ready none)) = W1 := ⟨_, rfl⟩
 have aq : W1.heap.size = w.heap.size + 2 := by rw [← y]; simp
 have aj : W1.heap[w.heap.size + 1]? = some (.loop (rec .ready none)) := by
  rw [← y]; have := World.alloc_heap_new (w.alloc (.deferred (some []))) (.loop (rec .ready none)); rwa [World.size_alloc] at this
 have ah : W1.heap[w.heap.size]? = some (.deferred (some [])) := by
  rw [← y]; exact (Below.heap_alloc _ _ _ (by simp)).trans (World.alloc_heap_new w _)
 have af : Below w.heap.size w W1 := by
  rw [← y]; exact ((Below.refl _ w).alloc (Nat.le_refl _) _).alloc (by simp) _
 refine ⟨w.heap.size + 1, [{ target := .collected w.heap.size, args := #[] }], W1, { target := .fn (.func gf) lb.toArray, args := #[.func (.yield (w.heap.size + 1)) #[] #[]] }, W1, gf,
  #[.func (.yield (w.heap.size + 1)) #[] #[]] ++ lb.toArray, W1, ?_, ?_, ?_, ?_, fun hx => by simp [Fw] at hx, ?_⟩
 ·rw [← y, hrec]; exact run_enterLoop_outer _ _ _ _ _
 ·rw [xV]
  simp only [resolve, List.map_toArray, List.map_cons, List.map_nil, hg]
  rfl
 ·intro f' _; trivial
 ·simp only [invoke, eg]
 ·have ak : N W1 := hNs _ _ _ hN ((Ch.of_below af)) (fun _ h => h.elim)
  have hput : ∀ (K : Nat) (A : World) (k : Nat) (o o' : Obj), A.heap[k]? = some o → Iv w.heap.size K k → Ch (Iv w.heap.size K) A (A.putObj k o') := fun K A k o o' hk hiv =>
   ⟨rfl, rfl, rfl, by simp [World.putObj], fun j _ hn => World.putObj_heap_other (fun e => hn (e ▸ hiv))⟩
  have hivm : ∀ {K k : Nat}, Iv W1.heap.size K k → Iv w.heap.size K k := fun h => ⟨by have := h.1; omega, h.2⟩
  have hcall := hit (w.heap.size + 1)
   (fun K pre A => I K pre A ∧ w.heap.size + 2 ≤ K ∧ A.heap[w.heap.size + 1]? = some (.loop (rec .ready none)) ∧ A.heap[w.heap.size]? = some (.deferred (some [])))
   (fun K pre A => ∃ c, Ix K c pre A ∧ w.heap.size + 2 ≤ K ∧ A.heap[w.heap.size + 1]? = some (.loop (rec .done (some c))) ∧ A.heap[w.heap.size]? = some (.deferred (some [])))
   W1 ak
   (fun A hA => ⟨h0 A (af.trans (hA.mono (by omega))), by have := hA.size; omega, (hA.block _ (by omega)).trans aj, (hA.block _ (by omega)).trans ah⟩)
   (fun K pre A B hs hc => ⟨hI K pre A B hs.1 (hc.mono fun k h => hivm h), hs.2.1, zZ hs.2.2.1 hc (fun h => by have := h.1; omega), zZ hs.2.2.2 hc (fun h => by have := h.1; omega)⟩)
   (fun K pre A B hs hc => by
    obtain ⟨c, h1, z, h3, h4⟩ := hs
    exact ⟨c, hIx K c pre A B h1 (hc.mono fun k h => hivm h), z, zZ h3 hc (fun h => by have := h.1; omega), zZ h4 hc (fun h => by have := h.1; omega)⟩)
   ?_
  ·refine CallsIn.mono (calls_fw.2 (by simpa using hcall)) ?_
   rintro e W2 ⟨v, rfl, hsz, (⟨K, l9, al, hi, z, hl, hk⟩ | ⟨K, pre, x, hpre, c, hi, z, hl, hk⟩)⟩
   ·refine ⟨none, _, by have := run_endLoop (P := P) hl (by rw [hrec]; simp); rw [hrec] at this; exact this, ?_⟩
    have hp := hput K W2 (w.heap.size + 1) _ (.loop { rec .ready none with state := .exhausted }) hl ⟨by omega, by omega⟩
    rw [hrec] at hp
    exact ⟨⟨s.f, _⟩, rfl, hdone K l9 _ al (hI _ _ _ _ hi hp) (Nat.le_trans (show w.heap.size ≤ W2.heap.size by omega) hp.size) ((World.putObj_heap_other (by omega)).trans hk)⟩
   ·refine ⟨some c, _, by have := run_endLoop (P := P) hl (by rw [hrec]; simp); rw [hrec] at this; exact this, ?_⟩
    have hp := hput K W2 (w.heap.size + 1) _ (.loop { rec .done (some c) with state := .exhausted }) hl ⟨by omega, by omega⟩
    rw [hrec] at hp
    exact W_iff.1 (hstop K c pre x _ hpre (hIx _ _ _ _ _ hi hp) (Nat.le_trans (show w.heap.size ≤ W2.heap.size by omega) hp.size) ((World.putObj_heap_other (by omega)).trans hk))
  ·-- one round
   rintro K pre x A ⟨hi, z, hl, hk⟩ hNA ax hKA hpre hmem
   have r : Iv w.heap.size K (w.heap.size + 1) := ⟨by omega, by omega⟩
   have ab : Iv w.heap.size K w.heap.size := ⟨Nat.le_refl _, by omega⟩
   have hlt : w.heap.size + 1 < A.heap.size := yC hl
   have hy := run_yield (P := P) (args := (encs x).toArray) hl (by rw [hrec]; simpa using hps x)
   rw [hrec] at hy
   refine ⟨fn, _, assign, body, hy, roundIn_of_wpIn hfn ?_⟩
   have hfr : (({ tmps := (Array.zip ps.toArray (encs x).toArray).foldl (fun tmps (t, a) => tmps.setIfInBounds t a) (s.act n).tmps, defers := [] } : Act)) = ((⟨s.f, []⟩ : Fm).puts (ps.zip (encs x))).act n := by
    have e := puts_act n (ps.zip (encs x)) ⟨s.f, []⟩
    have e2 : (s.act n).tmps = ((⟨s.f, []⟩ : Fm).act n).tmps := rfl
    rw [e2]
    have e3 : (Array.zip ps.toArray (encs x).toArray) = (ps.zip (encs x)).toArray := by simp
    rw [e3]
    show Act.mk _ _ = Act.mk _ _
    congr 1
    ·rw [List.foldl_toArray]; exact e
    ·exact (puts_ds (ps.zip (encs x)) ⟨s.f, []⟩).symm
   rw [hfr]
   refine wpIn_mono (W_iff.1 (hround (w.heap.size + 1) K pre x A hi hNA (by omega) hKA hpre hmem)) ?_
   rintro e a1 w1 ⟨s1, rfl, ae⟩
   cases e with
   | normal =>
    obtain ⟨hkp, hbody⟩ := ae
    have ac : w1.heap[w.heap.size + 1]? = some (.loop (rec .ready none)) := (hkp.same _ r).trans hl
    have ai : w1.heap[w.heap.size]? = some (.deferred (some [])) := (hkp.same _ ab).trans hk
    refine ⟨_, run_beginRound ac (by rw [hrec]), ?_⟩
    have hp := hput K w1 (w.heap.size + 1) _ (.loop { rec .ready none with state := .busy }) ac r
    have ao : (w1.putObj (w.heap.size + 1) (.loop { rec .ready none with state := .busy })).heap[w.heap.size + 1]? = some (.loop { rec .ready none with state := .busy }) := World.putObj_heap_same (yC ac)
    have ap : (w1.putObj (w.heap.size + 1) (.loop { rec .ready none with state := .busy })).heap[w.heap.size]? = some (.deferred (some [])) := (World.putObj_heap_other (by omega)).trans ai
    refine wpIn_mono (W_iff.1 (hbody _ hp)) ?_
    have fin : ∀ (jump : Option Code) (W3 : World), Kp w.heap.size K (w1.putObj (w.heap.size + 1) (.loop { rec .ready none with state := .busy })) W3 →
      (Instr.endRound (w.heap.size + 1) jump).run P W3 = .ok (.bool jump.isNone) (W3.putObj (w.heap.size + 1) (.loop (rec (if jump.isNone then .ready else .done) jump))) ∧
      (W3.putObj (w.heap.size + 1) (.loop (rec (if jump.isNone then .ready else .done) jump))).heap[w.heap.size + 1]? = some (.loop (rec (if jump.isNone then .ready else .done) jump)) ∧
      (W3.putObj (w.heap.size + 1) (.loop (rec (if jump.isNone then .ready else .done) jump))).heap[w.heap.size]? = some (.deferred (some [])) ∧
      Ch (Iv w.heap.size K) W3 (W3.putObj (w.heap.size + 1) (.loop (rec (if jump.isNone then .ready else .done) jump))) ∧
      Kp W1.heap.size K A (W3.putObj (w.heap.size + 1) (.loop (rec (if jump.isNone then .ready else .done) jump))) := fun jump W3 b => by
     have ad := (b.same _ r).trans ao
     have hr := run_endRound (P := P) jump ad
     rw [hrec] at hr ⊢
     refine ⟨hr, World.putObj_heap_same (yC ad), (World.putObj_heap_other (by omega)).trans ((b.same _ ab).trans ap), hput K W3 _ _ _ ad r, ⟨?_, fun k hkk => ?_⟩⟩
     ·have h1 := hkp.size; have z := hp.size; have h3 := b.size
      simp only [World.putObj, Array.size_setIfInBounds] at z h3 ⊢
      omega
     ·have hkne : k ≠ w.heap.size + 1 := by have := hkk.1; omega
      have hkk' : Iv w.heap.size K k := hivm hkk
      exact (World.putObj_heap_other hkne).trans ((b.same k hkk').trans ((World.putObj_heap_other hkne).trans (hkp.same k hkk')))
    rintro e3 a3 W3 ⟨s3, rfl, u⟩
    cases e3 with
    | normal =>
     obtain ⟨b, p, an⟩ := u
     obtain ⟨hr, m, q, i, d⟩ := fin none W3 b
     exact ⟨_, _, hr, .inl ⟨rfl, ⟨hI _ _ _ _ p i, z, m, q⟩, d, hNs _ _ _ an i (fun k h => h.1)⟩⟩
    | ret =>
     obtain ⟨b, p⟩ := u
     obtain ⟨hr, m, q, i, d⟩ := fin (some .ret) W3 b
     exact ⟨_, _, hr, .inr ⟨rfl, ⟨.ret, hIx _ _ _ _ _ p i, z, m, q⟩, d⟩⟩
    | exit id =>
     obtain ⟨b, p⟩ := u
     obtain ⟨hr, m, q, i, d⟩ := fin (some (.exit id)) W3 b
     exact ⟨_, _, hr, .inr ⟨rfl, ⟨.exit id, hIx _ _ _ _ _ p i, z, m, q⟩, d⟩⟩
    | goto t =>
     obtain ⟨b, p⟩ := u
     obtain ⟨hr, m, q, i, d⟩ := fin (some (.goto t)) W3 b
     exact ⟨_, _, hr, .inr ⟨rfl, ⟨.goto t, hIx _ _ _ _ _ p i, z, m, q⟩, d⟩⟩
    | panic _ => exact u.elim
    | outgrown => exact u.elim
   | _ => exact ae.elim
end
end Go.FK
end

/- === Wcb3 === -/
section
/- Walks, written by my program walk.py out of the specification cb3.py: each theorem says what one function returns and that it leaves memory as it was. -/
namespace Go.Proofs.YtddnhlobnembaaaGreatDoor
open Go Go.RowKit Go.FK _root_.Go.Proofs.Tryz
set_option maxHeartbeats 4000000
set_option maxRecDepth 100000
theorem it_Keys (r m_rs : Nat) (rs : List (Int × (Int × Int × Int)))  :
  IterP (α := Int) Tryz.prog 98 [.pointer (some ⟨r, 0, none⟩)] (fun x => [.int .i32 x]) (fun l => l.length ≤ rs.length) (fun l => l.Perm (rs.map (·.1))) (fun _ _ _ => True) (fun w => w.heap[r]? = some (.cells [(.map (some m_rs))].toArray 66 (0, 0)) ∧ w.heap[m_rs]? = some (gmObj .i32 vBrk rs)) := by
 intro l J Jx w hN h0 af ap hY
 refine wG 14 func98 rfl ?_
 have hb := Below.refl w.heap.size w
 have n : w.heap.size ≤ w.heap.size := Nat.le_refl _
 obtain ⟨b, a⟩ := hN
 refine wR (zO 0 b rfl (L_grange (k := .i32) vBrk m_rs rs underlying66 a zk ?_))
 intro b1 w2 j
 have h := yZ (yC b) j
 have d := yZ (yC a) j
 have y := j.ge n
 replace hb := hb.trans (j.below.mono n)
 replace n := Nat.le_trans n (j.below.size)
 have c := j.here
 refine nQ (zY ?_)
 have u := h0 _ hb
 obtain ⟨K, al⟩ : ∃ K, K = w2.heap.size := ⟨_, rfl⟩
 rw [← al] at u
 have s : K ≤ w2.heap.size := by omega
 have ai : w.heap.size ≤ K := by omega
 have p : Iv w.heap.size K b1 := ⟨y, by have := yC c; omega⟩
 replace a := zC a j.below
 replace b := zC b j.below
 refine xD (fun m s0 w0 => ∃ (g : Array Nat) (o : List Int), (m = rs.length - g.size) ∧ (s0.ds = []) ∧ ([0, 5].map s0.f = [(.func (.yield l) #[] #[]), (pt b1 0)]) ∧ (w0.heap[r]? = some (.cells [(.map (some m_rs))].toArray 66 (0, 0))) ∧ (w0.heap[m_rs]? = some (gmObj .i32 vBrk rs)) ∧ (w0.heap[b1]? = some (.mapIter (some m_rs) (List.length rs) g (List.length rs))) ∧ (w.heap.size ≤ w0.heap.size) ∧ (K ≤ w0.heap.size) ∧ (J K o w0) ∧ (TldK rs g o)) _ ⟨(#[]), [], rfl, zk, zk, b, a, c, n, s, u, (TldK.zero _)⟩ ?_
 rintro m4 s5 w6 ⟨g, o, hm, z, ak, b, a, c, n, s, u, i1⟩
 refine yU ak (wR (L_gnext (k := .i32) (f := vBrk) b1 m_rs rs g zk c a ?_ ?_))
 ·skip
  intro i7 q aw ag an i
  have t := Ch.refl (Iv w.heap.size K) w6
  replace s := Nat.le_trans s (Nat.le_of_eq i.size.symm)
  replace n := Nat.le_trans n (Nat.le_of_eq i.size.symm)
  replace c := i.here
  replace a := zG a i d
  refine zr (.bool true) (nW (zT (zP (zD (zY (wR (L_gentry b1 m_rs rs g i7 q zk c a ag (zr (I3 q.1) (zI (nR (zH (zH ?_))))))))))))
  replace t := t.trans2 (Ch.of_wrote i) (fun k e => .inr (e ▸ p))
  replace u := af _ _ _ _ u t
  clear t
  have v : (o ++ [q.1]).length ≤ rs.length := by have := (i1.push za za).len; rw [this.2]; exact this.1
  replace b := zG b i h
  refine L_yieldR l [(I3 q.1)] zk zk (hY K o q.1 _ u ⟨b, a⟩ ai s v trivial) ?_
  rintro e ay (⟨rfl, ae, hk, aj⟩ | ⟨rfl, am, hk⟩)
  ·refine ⟨true, rfl, ?_⟩
   replace c := (hk.same _ p).trans c
   replace n := Nat.le_trans n hk.size
   replace s := Nat.le_trans s hk.size
   replace u := ae
   obtain ⟨b, a⟩ := aj
   refine znt true (nQ (zF (zP (zJ (zD ⟨_, ?_, (Array.push g i7), (o ++ [q.1]), rfl, z, zk, b, a, c, n, s, u, ?_⟩)))))
   ·have := (i1.push za za).len; simp only [Array.size_push] at *; omega
   exact i1.push za za
  refine ⟨false, rfl, ?_⟩
  replace n := Nat.le_trans n hk.size
  replace s := Nat.le_trans s hk.size
  refine znt false (nQ (zT (zW (zR (zK (zR (yF [] (hd := z) ?_)))))))
  exact ⟨n, Or.inr ⟨K, _, _, v, am⟩⟩
 skip
 intro ac
 refine zr (.bool false) (nW (zF (yR (zL (zL (yD (znrm [] (hd := z) ?_)))))))
 exact ⟨n, Or.inl ⟨K, o, (by exact i1.all za), u⟩⟩
theorem c_AppendSeq (c0_seq m_rs : Nat) (rs : List (Int × (Int × Int × Int))) (w : World) (d : w.heap[c0_seq]? = some (.cells [(.map (some m_rs))].toArray 66 (0, 0))) (f : w.heap[m_rs]? = some (gmObj .i32 vBrk rs)) (hm : rs.length ≤ 4194304) :
  Calls Tryz.prog 112 #[(.slice none 0 0), (.func (.func 98) #[] #[(pt c0_seq 0)])] w (Ret fun v w' => ∃ (ys : List Int) (q0 : Value), v = q0 ∧ Row w' w.heap.size 21 1 encI32 q0 ys ∧ ys.Perm (rs.map (·.1)) ∧ ys.length = rs.length ∧ Below w.heap.size w w') := by
 refine enterM (args := [(.slice none 0 0), (.func (.func 98) #[] #[(pt c0_seq 0)])]) func112 rfl (zk : _ = 13) zk ?_
 have n := Below.refl w.heap.size w
 refine wR (zN [(.slice none 0 0)] 23 ?_)
 intro b1 w2 z
 have r := yZ (yC f) z
 have ao := z.ge n.size
 have j := z.here
 refine zI (nW (wR (zH (nQ (zY ?_)))))
 have d := zC d z.below
 have o : c0_seq < w2.heap.size := yC d
 have f := zC f z.below
 have m : m_rs < w2.heap.size := yC f
 have s : b1 < w2.heap.size := yC j
 have n := n.tr z.below
 have ac := n.size
 have a0 := n
 refine W_rangeP 98 [(pt c0_seq 0)] (fun l => l.length ≤ rs.length) (fun l => l.Perm (rs.map (·.1))) (fun _ _ _ => True) zk (fun _ _ => rfl) (it_Keys c0_seq m_rs rs ) ⟨d, f⟩ ((fun D A B h hc hd => ⟨zZ h.1 hc (fun h => Nat.not_lt.2 (hd _ h) o), zZ h.2 hc (fun h => Nat.not_lt.2 (hd _ h) m)⟩)) (by intro x; rfl) (fun K t A => ∃ (q : List Int) (i : Value), (A.heap[c0_seq]? = some (.cells [(.map (some m_rs))].toArray 66 (0, 0))) ∧ (A.heap[m_rs]? = some (gmObj .i32 vBrk rs)) ∧ (A.heap[b1]? = some (.cells [i].toArray 23 (0, 0))) ∧ (Row A w.heap.size 21 1 encI32 i q) ∧ (∀ g, Value.ownBlock i = some g → ¬ Iv w2.heap.size K g) ∧ (Below w.heap.size w A) ∧ (q = t)) (fun K c t A => False) ?_ ?_ ?_ ?_ ?_ ?_
 ·intro A hA
  exact ⟨[], (.slice none 0 0), zC d hA, zC f hA, zC j hA, Row.nil _ _ _ _ _, nr_nil _ _, n.trans (hA.mono n.size), by rfl⟩
 ·rintro K t A B ⟨q, i, d, f, j, a, b, n, p1⟩ hc
  exact ⟨q, i, zZ d hc (fun h => Nat.not_lt.2 h.1 o), zZ f hc (fun h => Nat.not_lt.2 h.1 m), zZ j hc (fun h => Nat.not_lt.2 h.1 s), a.ch hc b, b, hc.below n n.size (fun k h => Nat.le_trans ac h.1), p1⟩
 ·intro K c _ A B h hc; exact h.elim
 ·intro l K t x A hi hN a2 hK an ay
  obtain ⟨q, i, d, f, j, a, b, n, p1⟩ := hi
  have hk := Kp.refl (w2.heap.size) K A
  have aj : ¬ Iv (w2.heap.size) K c0_seq := fun h => Nat.not_lt.2 h.1 o
  have aa : ¬ Iv (w2.heap.size) K m_rs := fun h => Nat.not_lt.2 h.1 m
  have ab : ¬ Iv (w2.heap.size) K b1 := fun h => Nat.not_lt.2 h.1 s
  have d := hN.1
  have f := hN.2
  have av : (t ++ [x]).length ≤ rs.length := an
  rw [List.length_append, List.length_singleton] at av
  have a3 : q.length = t.length := by rw [p1]
  refine zV (zI (zS (zD ⟨hk, ?_⟩)))
  intro w4 y
  have n := y.below n n.size (fun k h => Nat.le_trans ac h.1)
  replace hK := Nat.le_trans hK y.size
  replace hk := Kp.refl (w2.heap.size) K w4
  have j := zZ j y ab
  have a := a.ch y b
  refine zY (zV (zO 0 j rfl (zH (wO yN w.heap.size i q x n.size a zo zk rfl rfl zk rfl zk zk ?_))))
  intro v6 w7 ax u ak
  have ap := nr_app ak b hK
  have n := n.tg n.size u a
  replace hk := hk.ch (Ch.of_grown u) hK (fun k e => b k e)
  replace hK := Nat.le_trans hK (u.size)
  have d := zZ d y aj
  have d := yB d u (a.ne d zi)
  have f := zZ f y aa
  have f := yB f u (a.ne f (by simp [gmObj]))
  have j := yB j u (a.ne j zi)
  have a := ax
  have b := ap; clear ap
  refine wF b1 0 v6 [i] [v6] 23 zk zk a.one zk j zi rfl ?_
  intro a4 p
  replace hk := hk.ch (Ch.of_wrote p) hK (fun k e h => ab (e ▸ h))
  replace hK := Nat.le_trans hK (Nat.le_of_eq p.size.symm)
  have d := zG d p (zQ d j zi)
  have a := a.wrote p (a.ne j zi)
  have j := p.here
  refine zS (zJ ?_)
  have n := n.trans (p.below ao)
  have f := zG f p r
  refine xY hk ⟨d, f⟩ ⟨(q ++ [x]), v6, d, f, j, a, b, n, ?_⟩
  rw [p1]
 ·intro K t A ai hi a1 ag
  obtain ⟨q, i, d, f, j, a, b, n, p1⟩ := hi
  refine zJ (zD (wR (zO 0 j rfl (zI (nQ (zW (end_retM (ds := [⟨.collected w2.heap.size, #[]⟩]) zk (Lv_mark ag ?_))))))))
  intro a6 ah
  have a := a.wrote ah (a.ne ag zi)
  refine Lv_nil [.tmp 4] [i] rfl ⟨zk, trivial⟩ ?_
  have n := n.trans (ah.below ac)
  exact ⟨q, i, rfl, a, (by rw [p1]; exact ai), (by rw [p1, ai.length_eq, List.length_map]), n⟩
 intro K c _ x A _ h; exact h.elim
theorem c_Sort12 (B_ : Nat) (a : Value) (s : List (Int)) (w : World) (hs0 : B_ ≤ w.heap.size) (b : Row w B_ 21 1 encI32 a s) (h1 : s.length ≤ 1114112) :
  Calls Tryz.prog 97 #[a] w (Ret fun v w' => ∃ (ys : List (Int)), v = (.tuple #[]) ∧ Row w' B_ 21 1 encI32 a ys ∧ (Sw 0 s.length s ys) ∧ (Srt ys 0 s.length) ∧ Ch (fun k => Value.ownBlock a = some k) w w') := by
 refine wG 11 func97 rfl ?_
 have l := Below.refl B_ w
 have f : B_ ≤ (World.heap w).size := hs0
 have j := Ch.refl (fun k => Value.ownBlock a = some k) w
 have c : ∀ g, Value.ownBlock a = some g → (World.heap w).size ≤ g ∨ (fun k => Value.ownBlock a = some k) g := fun g h => .inr h
 refine wR (zH (zln underlying23 (b.rd).len (zI (nQ (zV (zH (zH (zH (L_conv (k := .i64) (((s).length : Nat) : Int) (((s).length : Nat) : Int) zk underlying144 zk (wrap_u64 _ zo zo) (zc (c_bitsLen (((s).length : Nat) : Int) _ zo zo) ?_))))))))))
 rintro _ r ⟨rfl, d⟩
 have l := l.trans (d.mono f)
 replace f := Nat.le_trans f (d.size)
 have := bitLen_le (Int.toNat (((s).length : Nat) : Int))
 have b := b.below d
 refine zc (c_pdq B_ a s 0 ((s).length) (Lib.bitLen (((s).length : Nat) : Int).toNat) _ f b zo zo zo (by exact Low.zero) zo) ?_
 replace j := j.trans2 (Ch.of_below d) (fun _ h => h.elim)
 rintro _ q ⟨n, rfl, m, p, o, i⟩
 have l := i.below l f (fun k e => (World.ownsRow.lt b k e).1)
 replace f := Nat.le_trans f i.size
 have b := m
 refine zS (znrm [] ?_)
 replace j := j.trans2 i (fun k e => c k e)
 exact ⟨n, rfl, b, za, za, j⟩
theorem c_Sorted12 (c0_seq m_rs : Nat) (rs : List (Int × (Int × Int × Int))) (w : World) (c : w.heap[c0_seq]? = some (.cells [(.map (some m_rs))].toArray 66 (0, 0))) (d : w.heap[m_rs]? = some (gmObj .i32 vBrk rs)) (hm : rs.length ≤ 1114112) :
  Calls Tryz.prog 59 #[(.func (.func 98) #[] #[(pt c0_seq 0)])] w (Ret fun v w' => ∃ (q0 : Value), v = q0 ∧ Row w' w.heap.size 21 1 encI32 q0 (keysB rs) ∧ Below w.heap.size w w') := by
 refine wG 9 func59 rfl ?_
 have b := Below.refl w.heap.size w
 refine wR (zI (nR (zH (L_inline 96 [(.func (.func 98) #[] #[(pt c0_seq 0)])] zk zk (wG 5 func96 rfl (wR (zI (nR (zH (zc (c_AppendSeq c0_seq m_rs rs _ c d zo) ?_))))))))))
 rintro h r ⟨m, _, rfl, a, o, p, i⟩
 have a := a.base b.size
 refine zI (nQ (zW (yF [h] ?_)))
 show L _ _ _ _ _ _ (Fm.put _ _ h) _
 have b := b.tr i
 refine zI (nR (zH (zc (c_Sort12 w.heap.size h m _ b.size a zo) ?_)))
 rintro _ q ⟨n, rfl, f, l, j, g⟩
 have b := g.below b b.size (fun k e => (World.ownsRow.lt a k e).1)
 have a := f
 exact nR (zH (zI (nQ (zW (yF [h] ⟨h, rfl, a.cast (by exact keys_sorted za za za rfl), b⟩)))))
theorem c_there_g (a : Nat) (m_rs : Nat) (rs : List (Int × (Int × Int × Int))) (b : Value) (w : World) (c : w.heap[a]? = some (.cells [(.map (some m_rs)), b].toArray 69 (0, 0))) (d : w.heap[m_rs]? = some (gmObj .i32 vBrk rs)) :
  Calls Tryz.prog 51 #[(pt a 0)] w (Ret fun v w' => v = (.bool true) ∧ Below w.heap.size w w') := by
 refine wG 12 func51 rfl ?_
 have e := Below.refl w.heap.size w
 exact wR (zI (nR (zH (zr (.bool true) (zH (zw (zH (zw (zr (pt a 0) (zw (zr (pt a 0) (zw (zO 0 c rfl (zw (zr (.bool true) (wB (zI (nQ (zW (yF [(.bool true)] ⟨rfl, e⟩))))))))))))))))))))
theorem it_Rows12 (bx_b n : Nat) (m_rs : Nat) (rs : List (Int × (Int × Int × Int))) (y : Value) (hm : rs.length ≤ 1114112) :
  Iter (α := Brk) Tryz.prog 58 [.pointer (some ⟨bx_b, 0, none⟩)] (fun x => [.agg #[.int .i32 x.1, .int .i32 x.2.1, .int .u8 x.2.2]]) (rowsB rs) (fun w => w.heap[bx_b]? = some (.cells [(pt n 0)].toArray 27 (0, 0)) ∧ w.heap[n]? = some (.cells [(.map (some m_rs)), y].toArray 69 (0, 0)) ∧ w.heap[m_rs]? = some (gmObj .i32 vBrk rs)) := by
 intro l J Jx w hN h0 ax aq hY
 refine wG 29 func58 rfl ?_
 have hb := Below.refl w.heap.size w
 have j : w.heap.size ≤ w.heap.size := Nat.le_refl _
 obtain ⟨c, b, a⟩ := hN
 refine yA (wR (zO 0 c rfl (zc (c_there_g n m_rs rs y _ b a) ?_)))
 rintro _ w1 ⟨rfl, v⟩
 have hb := hb.trans (v.mono j)
 replace j := Nat.le_trans j (v.size)
 have c := zC c v
 have b := zC b v
 refine znt true (nQ (zF (zP (zD (wR (zO 0 c rfl (zr (pt n 0) (zFO 0 b rfl (L_inline 60 [(.map (some m_rs))] zk zk (wG 4 func60 rfl (wR (zN [(.map (some m_rs))] 66 ?_))))))))))))
 intro b4 w5 p
 have u := p.ge j
 have hb := hb.trans (p.below.mono j)
 replace j := Nat.le_trans j (p.below.size)
 have d := p.here
 refine zI (nR (zr (.func (.func 98) #[] #[(pt b4 0)]) (zI (nQ (zW (yF [(.func (.func 98) #[] #[(pt b4 0)])] ?_))))))
 show L _ _ _ _ _ _ (Fm.put _ _ (.func (.func 98) #[] #[(pt b4 0)])) _
 have a := zC (zC a v) p.below
 refine zc (c_Sorted12 b4 m_rs rs _ d a zo) ?_
 rintro q7 w8 ⟨_, rfl, h, t⟩
 have h := h.base j
 have hb := hb.trans (t.mono j)
 replace j := Nat.le_trans j (t.size)
 refine zln underlying23 (h.rd).len (zH (nQ (zY ?_)))
 have hJ := h0 _ hb
 obtain ⟨K, ao⟩ : ∃ K, K = w8.heap.size := ⟨_, rfl⟩
 rw [← ao] at hJ
 have hK : K ≤ w8.heap.size := by omega
 have al : w.heap.size ≤ K := by omega
 have d := zC d t
 have r : Iv w.heap.size K b4 := ⟨u, by have := yC d; omega⟩
 have s : ∀ g, Value.ownBlock q7 = some g → Iv w.heap.size K g := fun g hg => by have := World.ownsRow.lt h g hg; exact ⟨this.1, by omega⟩
 have c := zC (zC c p.below) t
 have a := zC a t
 have b := zC (zC b p.below) t
 refine xD (fun m s0 w0 => ∃ (i : Nat) (q : List Brk), (m = (keysB rs).length - i) ∧ (s0.ds = []) ∧ ([0, 1, 13, 14, 15].map s0.f = [(.func (.yield l) #[] #[]), (pt bx_b 0), q7, (N6 (((keysB rs)).length)), (N6 i)]) ∧ (Row w0 w.heap.size 21 1 encI32 q7 (keysB rs)) ∧ (w0.heap[bx_b]? = some (.cells [(pt n 0)].toArray 27 (0, 0))) ∧ (w0.heap[n]? = some (.cells [(.map (some m_rs)), y].toArray 69 (0, 0))) ∧ (w0.heap[m_rs]? = some (gmObj .i32 vBrk rs)) ∧ (w0.heap[b4]? = some (.cells [(.map (some m_rs))].toArray 66 (0, 0))) ∧ (w.heap.size ≤ w0.heap.size) ∧ (K ≤ w0.heap.size) ∧ (J K q w0) ∧ (i ≤ (keysB rs).length) ∧ (q = (rowsB rs).take i)) _ ⟨0, [], rfl, zk, zk, h, c, b, a, d, j, hK, hJ, (Nat.zero_le _), rfl⟩ ?_
 rintro a1 a4 a5 ⟨i, q, hm, af, an, h, c, b, a, d, j, hK, hJ, i1, ac⟩
 refine yU an ?_
 have az := keysB_len rs
 refine wR (nLt i (((keysB rs)).length) ?_ ?_)
 ·intro a2
  refine nW (zT (zP (zD (yA (zY (wR ?_))))))
  have hz := zU (keysB rs) i zo; obtain ⟨o, ah⟩ := hz
  refine zE1 h.rd yN i ah rfl fun _ => (zI (nR (zH (zO 0 c rfl (zr (pt n 0) (zFO 0 b rfl (zH (L_glook1 (k := .i32) (f := vBrk) (0, 0, 0) o rs underlying66 underlying21 zk (GmAt.of a) zk zk ?_))))))))
  have z : q ++ [(lookB rs o)] <+: (rowsB rs) := by rw [ac]; exact rows_pre za
  refine L_yield l [(Value.agg #[(I3 ((lookB rs o).1)), (I3 ((lookB rs o).2.1)), (U8 ((lookB rs o).2.2))])] zk zk (hY K q (lookB rs o) _ hJ ⟨c, b, a⟩ al hK z) ?_
  rintro e au (⟨rfl, ak, hk, am⟩ | ⟨rfl, ap, hk⟩)
  ·refine ⟨true, rfl, ?_⟩
   have d := (hk.same _ r).trans d
   have h := h.kp hk s
   replace j := Nat.le_trans j hk.size
   replace hK := Nat.le_trans hK hk.size
   replace hJ := ak
   obtain ⟨c, b, a⟩ := am
   refine znt true (nQ (zF (zP (zJ (zD (zV (zad i 1 (zH (zS (zD ⟨_, zo, (i + 1), (q ++ [(lookB rs o)]), rfl, af, zk, h, c, b, a, d, j, hK, hJ, zo, ?_⟩))))))))))
   rw [ac]; exact rows_take za
  refine ⟨false, rfl, ?_⟩
  replace j := Nat.le_trans j hk.size
  replace hK := Nat.le_trans hK hk.size
  refine znt false (nQ (zT (zW (zR (zK (zK (zR (yF [] (hd := af) ?_))))))))
  exact ⟨j, Or.inr ⟨K, _, _, z, ap⟩⟩
 intro a3
 refine nW (zF (yR (zL (zL (yD (znrm [] (hd := af) ?_))))))
 have ai : q = (rowsB rs) := by first | (rw [ac, List.take_of_length_le (by rw [wE, ← keysB_len]; omega)]; done)
 rw [ai] at hJ
 exact ⟨j, Or.inl ⟨K, hJ⟩⟩
theorem c_Rows (a : Nat) (m_rs : Nat) (rs : List (Int × (Int × Int × Int))) (e : Value) (w : World) (i : w.heap[a]? = some (.cells [(.map (some m_rs)), e].toArray 69 (0, 0))) (h : w.heap[m_rs]? = some (gmObj .i32 vBrk rs)) :
  Calls Tryz.prog 24 #[(pt a 0)] w (Ret fun v w' => ∃ (cb0 : Nat), v = (.func (.func 58) #[] #[(pt cb0 0)]) ∧ w'.heap[cb0]? = some (.cells [(pt a 0)].toArray 27 (0, 0)) ∧ w.heap.size ≤ cb0 ∧ Below w.heap.size w w') := by
 refine wG 4 func24 rfl ?_
 have f := Below.refl w.heap.size w
 refine wR (zN [(pt a 0)] 27 ?_)
 intro g j b
 have d := b.ge f.size
 have c := b.here
 have f := f.tr b.below
 exact zI (nR (zr (.func (.func 58) #[] #[(pt g 0)]) (zI (nQ (zW (yF [(.func (.func 58) #[] #[(pt g 0)])] ⟨g, rfl, c, d, f⟩))))))
theorem c_words_Letter (c : Int) (w : World) :
  Calls Tryz.prog 43 #[(U8 c)] w (Ret fun v w' => v = (.tuple #[(S (letterS c)), (I6 (letterE c))]) ∧ Below w.heap.size w w') := by
 refine wG 11 func43 rfl ?_
 have a := Below.refl w.heap.size w
 refine wR (zI (zI (nW (wR (zH (nQ (zY (wR (zEq .u8 c 0 ?_ ?_)))))))))
 ·intro g
  exact zI (nQ (zT (wR (zI (zI (nQ (zW (zR (zK (yF [(S [110]), (I6 0)] ⟨xO (congrArg S (by simp [letterS, *])) (e6 (by simp [letterE, *])), a⟩))))))))))
 intro h
 refine zI (nQ (zF (wR (zEq .u8 c 1 ?_ ?_))))
 ·intro b
  exact zI (nQ (zT (wR (zI (zI (nQ (zW (zR (zK (yF [(S [111]), (I6 0)] ⟨xO (congrArg S (by simp [letterS, *])) (e6 (by simp [letterE, *])), a⟩))))))))))
 intro e
 refine zI (nQ (zF (wR (zEq .u8 c 2 ?_ ?_))))
 ·intro f
  exact zI (nQ (zT (wR (zI (zI (nQ (zW (zR (zK (yF [(S [99]), (I6 0)] ⟨xO (congrArg S (by simp [letterS, *])) (e6 (by simp [letterE, *])), a⟩))))))))))
 intro d
 exact zI (nQ (zF (zP (zJ (zD (wR (zI (zI (nQ (zW (yF [(S []), (I6 2)] ⟨xO (congrArg S (by simp [letterS, *])) (e6 (by simp [letterE, *])), a⟩)))))))))))
theorem c_words_Side (s : List UInt8) (w : World) (hs : s.length ≤ 1073741824) :
  Calls Tryz.prog 76 #[(S s)] w (Ret fun v w' => v = (.tuple #[(U8 ((sideF s).1)), (I6 ((sideF s).2))]) ∧ Below w.heap.size w w') := by
 refine wG 33 func76 rfl ?_
 have c := Below.refl w.heap.size w
 refine wR (zI (zI (nW (wR (zM 3 [(S [78, 111, 110, 101]), (S [79, 112, 101, 110]), (S [67, 108, 111, 115, 101])] 9 ?_)))))
 intro p w2 l
 have n := l.ge c.size
 have a : Row w2 w.heap.size 9 1 encStr (.slice (some ⟨p, 0, none⟩) 3 3) sideTab := Row.made sideTab l n rfl rfl (by first | decide | (simp; done))
 refine zln underlying88 (a.rd).len (zH (nQ (zY ?_)))
 replace c := c.tr l.below
 refine xD (fun m s0 w0 => ∃ (k : Nat), (m = 3 - k) ∧ (s0.ds = []) ∧ ([0, 9, 10, 11].map s0.f = [(S s), (.slice (some ⟨p, 0, none⟩) 3 3), (N6 ((sideTab).length)), (N6 k)]) ∧ (Row w0 w.heap.size 9 1 encStr (.slice (some ⟨p, 0, none⟩) 3 3) sideTab) ∧ (Below w.heap.size w w0) ∧ (k ≤ 3) ∧ (sideFrom s k = sideF s)) _ ⟨0, rfl, zk, zk, a, c, by omega, rfl⟩ ?_
 rintro m4 s5 w6 ⟨k, hm, h, o, a, c, i1, j⟩
 refine yU o ?_
 have af : sideTab.length = 3 := rfl
 refine wR (nLt k ((sideTab).length) ?_ ?_)
 ·intro h7
  refine nW (zT (zP (zD (yA (zY (wR (zH ?_)))))))
  have z := zU sideTab k zo; obtain ⟨q, i⟩ := z
  have := sideTab_len i
  have b := i
  refine zE1 a.rd el88 k i rfl fun _ => (zI (zI (nR (zH (L_conv (k := .i64) ((k : Nat) : Int) ((k : Nat) : Int) zk underlying24 zk (wrap_u8 _ zo zo) (zI (nR (zH (zc (c_words_Letter ((k : Nat) : Int) _ ) ?_)))))))))
  rintro _ ad ⟨rfl, e⟩
  have := letterS_len ((k : Nat) : Int)
  refine zH (zr (S (letterS ((k : Nat) : Int))) (zr (I6 (letterE ((k : Nat) : Int))) (zI (zI (nR (zH (zH (zc (c_words_Alike s (letterS ((k : Nat) : Int)) _ zo zo) ?_))))))))
  rintro _ y ⟨rfl, d⟩
  refine yK (alikeB s (letterS ((k : Nat) : Int))) ?_ ?_
  ·intro r
   replace c := (c.tr e).tr d
   exact zH (zs (zs (zs (wB (nQ (zT (wR (zH (zI (zI (nQ (zW (zR (zK (zK (zR (zK (yF [(U8 ((k : Nat) : Int)), (I6 0)] (hd := h) ⟨xO (eu (by (rw [← j, wP b]; simp [*]; done))) (e6 (by (rw [← j, wP b]; simp [*]; done))), c⟩))))))))))))))))))
  intro aa
  refine zH (zw (zH (zw (zH (zw (zc (c_words_Alike s q _ zo zo) ?_))))))
  rintro _ t ⟨rfl, g⟩
  refine yK (alikeB s q) ?_ ?_
  ·intro ab
   replace c := ((c.tr e).tr d).tr g
   exact wM (nQ (zT (wR (zH (zI (zI (nQ (zW (zR (zK (zK (zR (zK (yF [(U8 ((k : Nat) : Int)), (I6 0)] (hd := h) ⟨xO (eu (by (rw [← j, wP b]; simp [*]; done))) (e6 (by (rw [← j, wP b]; simp [*]; done))), c⟩))))))))))))))
  intro ae
  refine wM (nQ (zF (zP (zJ (zD (zV (zad k 1 (zH (zS ?_)))))))))
  replace c := ((c.tr e).tr d).tr g
  replace a := ((a.below e).below d).below g
  refine zD ⟨_, zo, (k + 1), rfl, h, zk, a, c, zo, ?_⟩
  rw [← j, wP b]; simp [*]
 intro u
 exact nW (zF (yR (zL (zL (yD (zD (wR (zI (zI (nQ (zW (yF [(U8 0), (I6 51)] (hd := h) ⟨xO (eu (by (rw [← j, sideFrom_end (k := k) zo]; done))) (e6 (by (rw [← j, sideFrom_end (k := k) zo]; done))), c⟩))))))))))))
theorem c_Write12 (af : Nat) (m_rs : Nat) (rs : List (Int × (Int × Int × Int))) (ap : Value) (w : World) (j : w.heap[af]? = some (.cells [(.map (some m_rs)), ap].toArray 69 (0, 0))) (f : w.heap[m_rs]? = some (gmObj .i32 vBrk rs)) (hm : rs.length ≤ 1114112) :
  Calls Tryz.prog 16 #[(pt af 0)] w (Ret fun v w' => v = (S (writeB rs)) ∧ Below w.heap.size w w') := by
 refine enterM (args := [(pt af 0)]) func16 rfl (zk : _ = 42) zk ?_
 have q := Below.refl w.heap.size w
 refine wR (zI (nR (zN [(.pointer none), (.slice none 0 0)] 99 ?_)))
 intro b1 w2 aq
 have aj := yZ (yC f) aq
 have a0 := aq.ge q.size
 have i := aq.here
 have j := zC j aq.below
 have f := zC f aq.below
 refine nW (wR (zH (zc (c_Rows af m_rs rs ap _ j f) ?_)))
 rintro _ w4 ⟨aw, rfl, a, a1, a2⟩
 have q := q.tr aq.below
 replace a1 := Nat.le_trans q.size a1
 refine nQ (zY ?_)
 have j := zC j a2
 have ag : af < w4.heap.size := yC j
 have f := zC f a2
 have r : m_rs < w4.heap.size := yC f
 have i := zC i a2
 have ah : b1 < w4.heap.size := yC i
 have z : aw < w4.heap.size := yC a
 have q := q.tr a2
 have ax := q.size
 have bs := q
 refine W_range 58 [(pt aw 0)] (rowsB rs) zk (fun _ _ => rfl) (it_Rows12 aw af m_rs rs ap zo) ⟨a, j, f⟩ ((fun D A B h hc hd => ⟨zZ h.1 hc (fun h => Nat.not_lt.2 (hd _ h) z), zZ h.2.1 hc (fun h => Nat.not_lt.2 (hd _ h) ag), zZ h.2.2 hc (fun h => Nat.not_lt.2 (hd _ h) r)⟩)) (by intro x; rfl) (fun K a3 A => ∃ (pp : Value) (ac : List UInt8) (n : Value), (A.heap[af]? = some (.cells [(.map (some m_rs)), ap].toArray 69 (0, 0))) ∧ (A.heap[m_rs]? = some (gmObj .i32 vBrk rs)) ∧ (A.heap[b1]? = some (.cells [pp, n].toArray 99 (0, 0))) ∧ (A.heap[aw]? = some (.cells [(pt af 0)].toArray 27 (0, 0))) ∧ (Row A w.heap.size 5 1 encByt n ac) ∧ (∀ g, Value.ownBlock n = some g → ¬ Iv w4.heap.size K g) ∧ (Below w.heap.size w A) ∧ (pp = .pointer none ∨ pp = .pointer (some ⟨b1, 0, none⟩)) ∧ (ac = a3.flatMap lineB)) (fun K c a3 A => False) ?_ ?_ ?_ ?_ ?_ ?_
 ·intro A hA
  exact ⟨(.pointer none), [], (.slice none 0 0), zC j hA, zC f hA, zC i hA, zC a hA, Row.nil _ _ _ _ _, nr_nil _ _, q.trans (hA.mono q.size), by exact .inl rfl, by rfl⟩
 ·rintro K a3 A B ⟨pp, ac, n, j, f, i, a, d, m, q, rp, ra⟩ hc
  exact ⟨pp, ac, n, zZ j hc (fun h => Nat.not_lt.2 h.1 ag), zZ f hc (fun h => Nat.not_lt.2 h.1 r), zZ i hc (fun h => Nat.not_lt.2 h.1 ah), zZ a hc (fun h => Nat.not_lt.2 h.1 z), d.ch hc m, m, hc.below q q.size (fun k h => Nat.le_trans ax h.1), rp, ra⟩
 ·intro K c _ A B h hc; exact h.elim
 ·intro l K a3 x A hi hN bw hK bf
  obtain ⟨pp, ac, n, j, f, i, a, d, m, q, rp, ra⟩ := hi
  have hk := Kp.refl (w4.heap.size) K A
  have bj : ¬ Iv (w4.heap.size) K af := fun h => Nat.not_lt.2 h.1 ag
  have ay : ¬ Iv (w4.heap.size) K m_rs := fun h => Nat.not_lt.2 h.1 r
  have av : ¬ Iv (w4.heap.size) K b1 := fun h => Nat.not_lt.2 h.1 ah
  have a4 : ¬ Iv (w4.heap.size) K aw := fun h => Nat.not_lt.2 h.1 z
  have a := hN.1
  have j := hN.2.1
  have f := hN.2.2
  have bx := wrB_len ra bf
  refine zV (zN [(I3 0), (I3 0), (U8 0)] 26 ?_)
  intro b8 w9 p
  have ai := yZ (yC f) p
  have bc := p.ge q.size
  have au : ¬ Iv w4.heap.size K b8 := fun h => by have := h.2; have := p.num; omega
  replace hk := hk.ch (Ch.of_below p.below) hK (fun _ h => h.elim)
  replace hK := Nat.le_trans hK (p.below.size)
  have o := p.here
  refine zAW [(I3 x.1), (I3 x.2.1), (U8 x.2.2)] o ?_
  intro b6 u
  replace hk := hk.ch (Ch.of_wrote u) hK (fun k e h => au (e ▸ h))
  replace hK := Nat.le_trans hK (Nat.le_of_eq u.size.symm)
  have j := zC j p.below
  have j := zG j u (zQ j o zi)
  have i := zC i p.below
  have i := zG i u (zQ i o zi)
  have a := zC a p.below
  have a := zG a u (zQ a o zi)
  have d := d.below p.below
  have d := d.wrote u (d.ne o zi)
  have o := u.here
  refine zS (zD ⟨hk, ?_⟩)
  intro bp aa
  have q := (q.tr p.below).trans (u.below bc)
  have q := aa.below q q.size (fun k h => Nat.le_trans ax h.1)
  replace hK := Nat.le_trans hK aa.size
  replace hk := Kp.refl (w4.heap.size) K bp
  have o := zZ o aa au
  refine zY (wR (zFO 0 o rfl (zc (c_points_Show x.1 _ ) ?_)))
  rintro _ bv ⟨rfl, s⟩
  replace hk := hk.ch (Ch.of_below s) hK (fun _ h => h.elim)
  replace hK := Nat.le_trans hK (s.size)
  have := showF_len x.1
  have o := zC o s
  refine zH (zr (S ((showF x.1).1)) (zr (I6 ((showF x.1).2)) (zI (zI (nR (zFO 1 o rfl (zc (c_points_Show x.2.1 _ ) ?_)))))))
  rintro _ bt ⟨rfl, t⟩
  replace hk := hk.ch (Ch.of_below t) hK (fun _ h => h.elim)
  replace hK := Nat.le_trans hK (t.size)
  have := showF_len x.2.1
  have o := zC o t
  refine zH (zr (S ((showF x.2.1).1)) (zr (I6 ((showF x.2.1).2)) (zI (zI (nR (zFO 2 o rfl (zc (c_words_Letter x.2.2 _ ) ?_)))))))
  rintro _ bu ⟨rfl, ab⟩
  replace hk := hk.ch (Ch.of_below ab) hK (fun _ h => h.elim)
  replace hK := Nat.le_trans hK (ab.size)
  have := letterS_len x.2.2
  have q := ((q.tr s).tr t).tr ab
  have i := zC (zC (zC (zZ i aa av) s) t) ab
  have d := (((d.ch aa m).below s).below t).below ab
  refine zH (zr (S (letterS x.2.2)) (zr (I6 (letterE x.2.2)) (zI (zI (nQ (zV (zH (L_sadd ((showF x.1).1) ([59, 32] : List UInt8) (by (simp only [List.length_append, List.length_cons, List.length_nil]; omega)) zk zk (zH (L_sadd ((showF x.1).1 ++ ([59, 32] : List UInt8)) ((showF x.2.1).1) (by (simp only [List.length_append, List.length_cons, List.length_nil]; omega)) zk zk (L_sadd (((showF x.1).1 ++ ([59, 32] : List UInt8)) ++ (showF x.2.1).1) ([59, 32] : List UInt8) (by (simp only [List.length_append, List.length_cons, List.length_nil]; omega)) zk zk (zH (L_sadd ((((showF x.1).1 ++ ([59, 32] : List UInt8)) ++ (showF x.2.1).1) ++ ([59, 32] : List UInt8)) (letterS x.2.2) (by (simp only [List.length_append, List.length_cons, List.length_nil]; omega)) zk zk (L_sadd (((((showF x.1).1 ++ ([59, 32] : List UInt8)) ++ (showF x.2.1).1) ++ ([59, 32] : List UInt8)) ++ letterS x.2.2) ([10] : List UInt8) (by (simp only [List.length_append, List.length_cons, List.length_nil]; omega)) zk zk (zc (bd_WriteString b1 pp n ac ((((((showF x.1).1 ++ ([59, 32] : List UInt8)) ++ (showF x.2.1).1) ++ ([59, 32] : List UInt8)) ++ letterS x.2.2) ++ ([10] : List UInt8)) w.heap.size _ q.size i a0 d za zo (by (simp only [List.length_append, List.length_cons, List.length_nil]; omega))) ?_)))))))))))))))
  rintro _ b5 ⟨bg, rfl, bl, a9, bb, ad⟩
  have be : ∀ k, Dm b1 n k → ¬ Iv (w4.heap.size) K k := fun k e => e.elim (fun x => by rw [x]; exact av) (fun x => m k x)
  have ar : ∀ g, Value.ownBlock bg = some g → ¬ Iv (w4.heap.size) K g := fun g hg => (bb g hg).elim (fun x y => by have := y.2; omega) (fun e => be g e)
  replace hk := hk.ch ad hK be
  replace hK := Nat.le_trans hK ad.size
  have q := ad.below q q.size (fun k e => e.elim (fun x => x ▸ a0) (fun x => (World.ownsRow.lt d k x).1))
  have j := zC (zC (zC (zZ j aa bj) s) t) ab
  have j := obj_ch_mut j ad (zQ j i zi) (d.ne j zi)
  have f := zC (zC (zC (zZ (zG (zC f p.below) u ai) aa ay) s) t) ab
  have f := obj_ch_mut f ad aj (d.ne f (by simp [gmObj]))
  have a := zC (zC (zC (zZ a aa a4) s) t) ab
  have a := obj_ch_mut a ad (zQ a i zi) (d.ne a zi)
  have i := bl
  refine zS (zJ (xY hk ⟨a, j, f⟩ ⟨(pt b1 0), (ac ++ ((((((showF x.1).1 ++ ([59, 32] : List UInt8)) ++ (showF x.2.1).1) ++ ([59, 32] : List UInt8)) ++ letterS x.2.2) ++ ([10] : List UInt8))), bg, j, f, i, a, a9, ar, q, ?_, ?_⟩))
  ·exact .inr rfl
  exact wrB_step ra
 ·intro K A hi b4 an
  obtain ⟨pp, ac, n, j, f, i, a, d, m, q, rp, ra⟩ := hi
  refine zJ (zD (wR ?_))
  have bz := Bld.ofRow za i d a0 (d.ne i zi)
  refine zc (bldStr (fun B b l w h hB => Tryz.Builder_String_any_k B b l w h hB) ac _ bz q.size) ?_
  rintro _ b0 ⟨rfl, bh, bi, ao⟩
  have bn := Bld.obj_kept bz ao j (by intro cs X fz e; first | (simp [mapObj] at e; done) | (simp [gmObj] at e; done) | (injection e with _ e2 _; subst e2; decide))
  have bm := Bld.obj_kept bz ao f (by intro cs X fz e; first | (simp [mapObj] at e; done) | (simp [gmObj] at e; done) | (injection e with _ e2 _; subst e2; decide))
  have bd := Bld.obj_kept bz ao a (by intro cs X fz e; first | (simp [mapObj] at e; done) | (simp [gmObj] at e; done) | (injection e with _ e2 _; subst e2; decide))
  have am := Bld.obj_kept bz ao an (by intro cs X fz e; first | (simp [mapObj] at e; done) | (simp [gmObj] at e; done) | (injection e with _ e2 _; subst e2; decide))
  have an := am; clear am
  replace bz := bh
  refine zI (nQ (zW (end_retM (ds := [⟨.collected w4.heap.size, #[]⟩]) zk (Lv_mark an ?_))))
  intro b3 a6
  replace bz := Bld.wrote bz a6 an (by intro cs X fz e; first | (simp [mapObj] at e; done) | (simp [gmObj] at e; done) | (injection e with _ e2 _; subst e2; decide))
  refine Lv_nil [.tmp 2] [(S ac)] rfl ⟨zk, trivial⟩ ?_
  have q := (q.trans bi).trans (a6.below ax)
  exact ⟨congrArg S (by first | rfl | exact ra), q⟩
 intro K c _ x A _ h; exact h.elim
end Go.Proofs.YtddnhlobnembaaaGreatDoor
end

/- === An === -/
section
/- errors.As at a target of type *api.Errno, the error an api.Errno, by its own text: turned to this seat out of the worked example by my program asgen2.py. -/
namespace Go.Proofs.YtddnhlobnembaaaGreatDoor
open Go Go.RowKit Go.Extern.Stop Go.Stop Go.Extern Go.FK
theorem An.valueOf27 (t : Addr) (w : World) : (ReflectliteValue.unpack (.iface 143 (.pointer (some t)))).run Tryz.prog w
  = .ok (.agg #[.pointer (some ⟨7, 143, none⟩), .pointer (some ⟨w.heap.size, 0, none⟩), .int .u64 150]) (w.alloc (.cells #[.pointer (some t)] 143)) := by kernel_rfl
theorem An.type27 (a : Addr) (w : World) : (ReflectliteValue.methodAny (ReflectliteValue.valueError "reflectlite.Value.Type" 0) (fun t _ _ _ => ReflectliteType.toType t) #[.agg #[.pointer (some ⟨7, 143, none⟩), .pointer (some a), .int .u64 150]]).run Tryz.prog w
  = .ok (.iface 180 (.agg #[.pointer (some ⟨7, 143, none⟩)])) w := by kernel_rfl
theorem An.methodKind (h : Value) (w : World) : (Go.method 387 180 (.agg #[h]) "Kind").run Tryz.prog w = .ok (182, h) w := by kernel_rfl
theorem An.kind27 (w : World) : ((ReflectliteType.abiMethod fun t => (fun a : Nat => Value.int IntKind.u8 (a : Int)) <$> Rtype.kind t) #[.pointer (some ⟨7, 143, none⟩)]).run Tryz.prog w = .ok (.int .u8 22) w := by kernel_rfl
theorem An.kind25 (w : World) : ((ReflectliteType.abiMethod fun t => (fun a : Nat => Value.int IntKind.u8 (a : Int)) <$> Rtype.kind t) #[.pointer (some ⟨7, 28, none⟩)]).run Tryz.prog w = .ok (.int .u8 2) w := by kernel_rfl
theorem rlmN (z : Sem Value) (f : TypeId → Addr → Nat → Nat → Sem Value) (v : Value) :
  ReflectliteValue.method z f #[v] = (do match ← ReflectliteValue.parts v with | none => z | some (t, a, fl) => f t a fl (fl % 32)) := rfl
theorem An.parts27 (a : Addr) (w : World) : (ReflectliteValue.parts (.agg #[.pointer (some ⟨7, 143, none⟩), .pointer (some a), .int .u64 150])).run Tryz.prog w = .ok (some (143, a, 150)) w := by kernel_rfl
theorem An.isNil27 (a p : Addr) (W : World) (ha : W.cell? a = some (.pointer (some p))) :
  (ReflectliteValue.method (ReflectliteValue.valueError "reflectlite.Value.IsNil" 0) ReflectliteValue.isNil #[.agg #[.pointer (some ⟨7, 143, none⟩), .pointer (some a), .int .u64 150]]).run Tryz.prog W = .ok (.bool false) W := by
 rw [rlmN]
 simp only [Sem.run_bind, An.parts27, Result.andThen]
 simp [ReflectliteValue.isNil, loadVar, isAgg, underlying, Tryz.underlying143, ha, Result.andThen]
theorem An.methodElem (h : Value) (w : World) : (Go.method 387 180 (.agg #[h]) "Elem").run Tryz.prog w = .ok (208, .agg #[h]) w := by kernel_rfl
theorem An.methodImplements (h : Value) (w : World) : (Go.method 387 180 (.agg #[h]) "Implements").run Tryz.prog w = .ok (209, .agg #[h]) w := by kernel_rfl
theorem An.methodAssignableTo (h : Value) (w : World) : (Go.method 387 180 (.agg #[h]) "AssignableTo").run Tryz.prog w = .ok (206, .agg #[h]) w := by kernel_rfl
theorem An.elem27 (w : World) : (ReflectliteType.method ReflectliteType.elem #[.agg #[.pointer (some ⟨7, 143, none⟩)]]).run Tryz.prog w = .ok (.iface 180 (.agg #[.pointer (some ⟨7, 28, none⟩)])) w := by kernel_rfl
theorem An.implements25 (w : World) : (ReflectliteType.relation "Implements" ReflectliteType.implements_ #[.agg #[.pointer (some ⟨7, 28, none⟩)], .iface 180 (.agg #[.pointer (some ⟨7, 39, none⟩)])]).run Tryz.prog w = .ok (.bool true) w := by kernel_rfl
theorem An.typeOf25 (v : Value) (w : World) : (ReflectliteType.typeOf #[.iface 28 v]).run Tryz.prog w = .ok (.iface 180 (.agg #[.pointer (some ⟨7, 28, none⟩)])) w := by kernel_rfl
theorem An.assignable25 (w : World) : (ReflectliteType.relation "AssignableTo" ReflectliteType.assignableTo #[.agg #[.pointer (some ⟨7, 28, none⟩)], .iface 180 (.agg #[.pointer (some ⟨7, 28, none⟩)])]).run Tryz.prog w = .ok (.bool true) w := by kernel_rfl
theorem An.valueOf25 (e : Int) (w : World) : (ReflectliteValue.unpack (.iface 28 (.int .i64 e))).run Tryz.prog w
  = .ok (.agg #[.pointer (some ⟨7, 28, none⟩), .pointer (some ⟨w.heap.size, 0, none⟩), .int .u64 130]) (w.alloc (.cells #[.int .i64 e] 28)) := by kernel_rfl
theorem An.elemOf27 (w : World) : (Rtype.elem? 143).run Tryz.prog w = .ok (some 28) w := by kernel_rfl
theorem An.mk25 (p : Addr) (w : World) : (ReflectliteValue.mk 28 p ReflectliteValue.flagAddr).run Tryz.prog w = .ok (.agg #[.pointer (some ⟨7, 28, none⟩), .pointer (some p), .int .u64 386]) w := by kernel_rfl
theorem An.elemV27 (a p : Addr) (W : World) (ha : W.cell? a = some (.pointer (some p))) :
  (ReflectliteValue.method (ReflectliteValue.valueError "reflectlite.Value.Elem" 0) ReflectliteValue.elem #[.agg #[.pointer (some ⟨7, 143, none⟩), .pointer (some a), .int .u64 150]]).run Tryz.prog W
   = .ok (.agg #[.pointer (some ⟨7, 28, none⟩), .pointer (some p), .int .u64 386]) W := by
 rw [rlmN]
 simp only [Sem.run_bind, An.parts27, Result.andThen]
 simp [ReflectliteValue.elem, loadVar, isAgg, underlying, Tryz.underlying143, ha, Result.andThen, An.elemOf27, An.mk25]
theorem rlsN (v x : Value) : ReflectliteValue.set #[v, x] = (do
  let (some (dst, a, fl), some (src, b, _)) := (← ReflectliteValue.parts v, ← ReflectliteValue.parts x)
   | unsupported (.noEntry "extern/(internal/reflectlite.Value).Set.zeroValue")
  if fl / ReflectliteValue.flagAddr % 2 == 0 then unsupported (.noEntry "extern/(internal/reflectlite.Value).Set.unaddressable")
  let val ← loadVar src b
  if ← Rtype.directlyAssignable dst src then storeVar dst a val
  else if ← Rtype.implements dst src then
   if (← Rtype.kind src) == 20 then
    match val with
    | .nilIface => unsupported (.noEntry "extern/reflectlite: a nil value of one interface type handed on as a value of another")
    | _ => storeVar dst a val
   else storeVar dst a (.iface src val)
  else panicString ("reflectlite.Set: value of type " ++ (← Rtype.spelt src) ++ " is not assignable to type " ++ (← Rtype.spelt dst))
  pure (.tuple #[])) := rfl
theorem An.parts25a (a : Addr) (w : World) : (ReflectliteValue.parts (.agg #[.pointer (some ⟨7, 28, none⟩), .pointer (some a), .int .u64 386])).run Tryz.prog w = .ok (some (28, a, 386)) w := by kernel_rfl
theorem An.parts25 (a : Addr) (w : World) : (ReflectliteValue.parts (.agg #[.pointer (some ⟨7, 28, none⟩), .pointer (some a), .int .u64 130])).run Tryz.prog w = .ok (some (28, a, 130)) w := by kernel_rfl
theorem An.direct25 (w : World) : (Rtype.directlyAssignable 28 28).run Tryz.prog w = .ok true w := by kernel_rfl
theorem An.set25 (ta b : Addr) (e : Int) (old : Value) (W : World) (hb : W.cell? b = some (.int .i64 e)) (ht : W.cell? ta = some old) (hf : W.frozen? ta = false) :
  (ReflectliteValue.set #[.agg #[.pointer (some ⟨7, 28, none⟩), .pointer (some ta), .int .u64 386], .agg #[.pointer (some ⟨7, 28, none⟩), .pointer (some b), .int .u64 130]]).run Tryz.prog W
   = .ok (.tuple #[]) (W.setCell ta (.int .i64 e)) := by
 rw [rlsN]
 simp only [Sem.run_bind, An.parts25a, An.parts25, Result.andThen]
 simp [ReflectliteValue.flagAddr, loadVar, isAgg, underlying, Tryz.underlying28, hb, Result.andThen, An.direct25, storeVar, Value.cells, storeCells, Addr.add]
 rw [run_store Tryz.prog W ta _ _ (by rfl)]
 simp [ht, hf]
set_option maxHeartbeats 4000000 in
theorem an_hit (e : Int) (t : Addr) (old : Value) (w : World) (hg : w.cell? ⟨0, 0, none⟩ = some (.iface 180 (.agg #[.pointer (some ⟨7, 39, none⟩)]))) (ht0 : w.cell? t = some old) (hf0 : w.frozen? t = false) :
  Calls Tryz.prog 49 #[.iface 28 (.int .i64 e), .iface 143 (.pointer (some t))] w fun ev w' => ev = .returned (.bool true) ∧ w' = ((((w.alloc (.cells #[.pointer (some t)] 143)).alloc (.cells #[.pointer (some ⟨7, 143, none⟩), .pointer (some ⟨w.heap.size, 0, none⟩), .int .u64 150] 156)).alloc (.cells #[.pointer (some ⟨7, 143, none⟩), .pointer (some ⟨w.heap.size, 0, none⟩), .int .u64 150] 156)).alloc (.cells #[.int .i64 e] 28)).setCell t (.int .i64 e) := by
 have s := @run_callFunc_extern Tryz.prog 88 _ (fun args => ReflectliteValue.unpack (args.getD 0 (.tuple #[]))) Tryz.func88 (by kernel_rfl) (by kernel_rfl) (by kernel_rfl) (by kernel_rfl)
 have z := @run_callFunc_extern Tryz.prog 89 _ (ReflectliteValue.methodAny (ReflectliteValue.valueError "reflectlite.Value.Type" 0) (fun t _ _ _ => ReflectliteType.toType t)) Tryz.func89 (by kernel_rfl) (by kernel_rfl) (by kernel_rfl) (by kernel_rfl)
 have y := @run_callFunc_extern Tryz.prog 90 _ (ReflectliteValue.method (ReflectliteValue.valueError "reflectlite.Value.IsNil" 0) ReflectliteValue.isNil) Tryz.func90 (by kernel_rfl) (by kernel_rfl) (by kernel_rfl) (by kernel_rfl)
 have f := @run_callFunc_extern Tryz.prog 182 _ (ReflectliteType.abiMethod fun t => do pure (.int .u8 (← Rtype.kind t))) Tryz.func182 (by kernel_rfl) (by kernel_rfl) (by kernel_rfl) (by kernel_rfl)
 have k := @run_callFunc_extern Tryz.prog 208 _ (ReflectliteType.method ReflectliteType.elem) Tryz.func208 (by kernel_rfl) (by kernel_rfl) (by kernel_rfl) (by kernel_rfl)
 have b := @run_callFunc_extern Tryz.prog 209 _ (ReflectliteType.relation "Implements" ReflectliteType.implements_) Tryz.func209 (by kernel_rfl) (by kernel_rfl) (by kernel_rfl) (by kernel_rfl)
 have m := @run_callFunc_extern Tryz.prog 92 _ ReflectliteType.typeOf Tryz.func92 (by kernel_rfl) (by kernel_rfl) (by kernel_rfl) (by kernel_rfl)
 have a := @run_callFunc_extern Tryz.prog 206 _ (ReflectliteType.relation "AssignableTo" ReflectliteType.assignableTo) Tryz.func206 (by kernel_rfl) (by kernel_rfl) (by kernel_rfl) (by kernel_rfl)
 have p := @run_callFunc_extern Tryz.prog 110 _ (ReflectliteValue.method (ReflectliteValue.valueError "reflectlite.Value.Elem" 0) ReflectliteValue.elem) Tryz.func110 (by kernel_rfl) (by kernel_rfl) (by kernel_rfl) (by kernel_rfl)
 have g := @run_callFunc_extern Tryz.prog 111 _ ReflectliteValue.set Tryz.func111 (by kernel_rfl) (by kernel_rfl) (by kernel_rfl) (by kernel_rfl)
 have tO := An.typeOf25
 have mA := An.methodAssignableTo
 have j := An.assignable25
 have d := An.valueOf25
 have v := An.valueOf27
 have r := An.type27
 have mK := An.methodKind
 have mE := An.methodElem
 have mI := An.methodImplements
 have q := An.kind27
 have l := An.kind25
 have n := An.elem27
 have i := An.implements25
 have u := An.isNil27 ⟨w.heap.size, 0, none⟩ t ((w.alloc (.cells #[.pointer (some t)] 143)).alloc (.cells #[.pointer (some ⟨7, 143, none⟩), .pointer (some ⟨w.heap.size, 0, none⟩), .int .u64 150] 156)) (by simp)
 have hlt : 0 < w.heap.size := by
  rcases Nat.eq_zero_or_pos w.heap.size with c | h
  ·simp [World.cell?, c] at hg
  ·exact h
 have o : ((w.alloc (.cells #[.pointer (some t)] 143)).alloc (.cells #[.pointer (some ⟨7, 143, none⟩), .pointer (some ⟨w.heap.size, 0, none⟩), .int .u64 150] 156)).cell? ⟨0, 0, none⟩ = some (.iface 180 (.agg #[.pointer (some ⟨7, 39, none⟩)])) := by
  rw [World.cell?_alloc_lt _ _ ⟨0, 0, none⟩ (by simp), World.cell?_alloc_lt _ _ ⟨0, 0, none⟩ hlt]; exact hg
 have htl : t.block < w.heap.size := by
  rcases Nat.lt_or_ge t.block w.heap.size with h | h
  ·exact h
  ·simp [World.cell?, Array.getElem?_eq_none h] at ht0
 have el := An.elemV27 ⟨w.heap.size, 0, none⟩ t (((w.alloc (.cells #[.pointer (some t)] 143)).alloc (.cells #[.pointer (some ⟨7, 143, none⟩), .pointer (some ⟨w.heap.size, 0, none⟩), .int .u64 150] 156)).alloc (.cells #[.pointer (some ⟨7, 143, none⟩), .pointer (some ⟨w.heap.size, 0, none⟩), .int .u64 150] 156)) (by rw [World.cell?_alloc_lt _ _ ⟨w.heap.size, 0, none⟩ (by simp; omega)]; simp)
 have st := An.set25 t ⟨w.heap.size + 1 + 1 + 1, 0, none⟩ e old ((((w.alloc (.cells #[.pointer (some t)] 143)).alloc (.cells #[.pointer (some ⟨7, 143, none⟩), .pointer (some ⟨w.heap.size, 0, none⟩), .int .u64 150] 156)).alloc (.cells #[.pointer (some ⟨7, 143, none⟩), .pointer (some ⟨w.heap.size, 0, none⟩), .int .u64 150] 156)).alloc (.cells #[.int .i64 e] 28))
  (by rw [World.cell?_alloc_at _ _ _ _ (by simp)]; rfl)
  (by rw [World.cell?_alloc_lt _ _ t (by simp; omega), World.cell?_alloc_lt _ _ t (by simp; omega), World.cell?_alloc_lt _ _ t (by simp; omega), World.cell?_alloc_lt _ _ t htl]; exact ht0)
  (by rw [World.frozen?_alloc_old _ _ t (by simp; omega), World.frozen?_alloc_old _ _ t (by simp; omega), World.frozen?_alloc_old _ _ t (by simp; omega), World.frozen?_alloc_old _ _ t (Nat.ne_of_lt htl)]; exact hf0)
 go_enter Tryz.func49, Tryz.ntmps49
 go_wp2
 refine wp_loop_rounds 1 ?_
 rw [rounds_succ]
 go_wp2
 go_ret
 exact ⟨rfl, rfl⟩
theorem an_fk (e : Int) (t : Nat) (old : Value) (w : World) (hg : w.cell? ⟨0, 0, none⟩ = some (.iface 180 (.agg #[.pointer (some ⟨7, 39, none⟩)]))) (ht : w.heap[t]? = some (.cells [old].toArray 28 (0, 0))) :
  Calls Tryz.prog 49 #[.iface 28 (.int .i64 e), .iface 143 (.pointer (some ⟨t, 0, none⟩))] w (Ret fun v w' => v = .bool true ∧ ∃ w1, Below w.heap.size w w1 ∧ Wrote w1 w' t (.cells [.int .i64 e].toArray 28 (0, 0))) := by
 have hc : w.cell? ⟨t, 0, none⟩ = some old := by simp [World.cell?, ht]
 have hf : w.frozen? ⟨t, 0, none⟩ = false := by simp [World.frozen?, ht]
 refine (an_hit e ⟨t, 0, none⟩ old w hg hc hf).mono ?_
 rintro ev w' ⟨rfl, rfl⟩
 have hlt := yC ht
 have hb : Below w.heap.size w ((((w.alloc (.cells #[.pointer (some ⟨t, 0, none⟩)] 143)).alloc (.cells #[.pointer (some ⟨7, 143, none⟩), .pointer (some ⟨w.heap.size, 0, none⟩), .int .u64 150] 156)).alloc (.cells #[.pointer (some ⟨7, 143, none⟩), .pointer (some ⟨w.heap.size, 0, none⟩), .int .u64 150] 156)).alloc (.cells #[.int .i64 e] 28)) :=
  ((((Below.refl _ _).alloc (Nat.le_refl _) _).alloc (by simp) _).alloc (by simp; omega) _).alloc (by simp; omega) _
 have a := zC ht hb
 refine ⟨_, rfl, rfl, _, hb, ⟨rfl, rfl, rfl, by simp [World.setCell], ?_, fun k hk => Below.heap_setCell _ _ _ _ hk⟩⟩
 generalize (((w.alloc _).alloc _).alloc _).alloc _ = w4 at a ⊢
 obtain ⟨c, b⟩ := Array.getElem?_eq_some_iff.1 a
 show (w4.heap.modify t _)[t]? = _
 rw [Array.getElem?_eq_getElem (by rw [Array.size_modify]; exact c), Array.getElem_modify_self, b]
 simp
end Go.Proofs.YtddnhlobnembaaaGreatDoor
end

/- === Wcb4 === -/
section
/- Walks, written by my program walk.py out of the specification cb4.py: each theorem says what one function returns and that it leaves memory as it was. -/
namespace Go.Proofs.YtddnhlobnembaaaGreatDoor
open Go Go.RowKit Go.FK _root_.Go.Proofs.Tryz
set_option maxHeartbeats 4000000
set_option maxRecDepth 100000
theorem el79 : Elem Tryz.prog 79 3 1 8 := ⟨underlying79, zk, rfl⟩
theorem c_itoa2 (n : Int) (w : World) (hn0 : 0 ≤ n ∧ n < 100) :
  Calls Tryz.prog 186 #[(I6 n)] w (Ret fun v w' => v = (S (dg2 n)) ∧ Below w.heap.size w w') :=
 itoa2 Tryz.strconv_Itoa_small n w hn0
theorem c_Errno_Error (e : Int) (w : World) (he0 : 0 ≤ e ∧ e < 100) :
  Calls Tryz.prog 185 #[(I6 e)] w (Ret fun v w' => v = (S (errD e)) ∧ Below w.heap.size w w') := by
 refine wG 6 func185 rfl ?_
 have b := Below.refl w.heap.size w
 refine wR (zI (nR (zH (zc (c_itoa2 e _ zo) ?_))))
 rintro _ c ⟨rfl, a⟩
 have := dg2_len e
 have b := b.tr a
 exact L_sadd ([101, 114, 114, 111, 114, 32] : List UInt8) (dg2 e) (by (simp only [List.length_append, List.length_cons, List.length_nil]; omega)) zk zk (zI (nQ (zW (yF [(S (([101, 114, 114, 111, 114, 32] : List UInt8) ++ (dg2 e)))] ⟨congrArg S (by rfl), b⟩))))
theorem c_Fault_Error (a : Nat) (fl : List UInt8) (ln : Int) (cd : Int) (w : World) (m : w.heap[a]? = some (.cells [(S fl), (I6 ln), (I6 cd)].toArray 85 (0, 0))) (hf : fl.length ≤ 1073741824) (hl0 : 0 ≤ ln ∧ ln < 100) (hc0 : 0 ≤ cd ∧ cd < 100) :
  Calls Tryz.prog 199 #[(pt a 0)] w (Ret fun v w' => v = (S (fltD fl ln cd)) ∧ Below w.heap.size w w') := by
 refine wG 41 func199 rfl ?_
 have l := Below.refl w.heap.size w
 have i6 := dg2_len ln
 have i4 := errD_len cd
 refine wR (zI (nW (wR (zH (zr (.bool false) (nQ (zF (zP (zD (yA (wR (zH (zr (pt a 0) (zFO 0 m rfl (L_seq fl ([] : List UInt8) rfl zk zk ?_ ?_)))))))))))))))
 ·intro h1
  refine nQ (zT (yA (W_invL 13 14 1 [10, 11, 12, 13, 14, 15, 16, 17, 18, 19, 20, 21, 22] [(fun v _ => v = (pt a 0)), (fun v _ => v = (pt a 0)), (fun v _ => v = (pt a 1)), (fun v _ => v = (I6 ln)), (fun v _ => v = (S (dg2 ln))), (fun v _ => v = (S (([108, 105, 110, 101, 32] : List UInt8) ++ (dg2 ln)))), (fun v _ => v = (S ((([108, 105, 110, 101, 32] : List UInt8) ++ (dg2 ln)) ++ ([58, 32] : List UInt8)))), (fun v _ => v = (pt a 0)), (fun v _ => v = (pt a 0)), (fun v _ => v = (pt a 2)), (fun v _ => v = (I6 cd)), (fun v _ => v = (S (errD cd))), (fun v _ => v = (S (((([108, 105, 110, 101, 32] : List UInt8) ++ (dg2 ln)) ++ ([58, 32] : List UInt8)) ++ (errD cd))))] zk zk zk zk zk zk zk zk ⟨(fun v A B h l => h), (fun v A B h l => h), (fun v A B h l => h), (fun v A B h l => h), (fun v A B h l => h), (fun v A B h l => h), (fun v A B h l => h), (fun v A B h l => h), (fun v A B h l => h), (fun v A B h l => h), (fun v A B h l => h), (fun v A B h l => h), (fun v A B h l => h), trivial⟩ ?_ ?_)))
  ·intro w3 j
   refine ⟨?_, ?_, ?_, ?_, ?_, ?_, ?_, ?_, ?_, ?_, ?_, ?_, ?_, trivial⟩
   ·skip
    intro s4 w5 gn i5 hn i7 Z10 fn
    have h9 := j.trans (gn.mono j.size)
    have n : s4.f 0 = (pt a 0) := (hn 0 zk).trans zk
    have d : (s4.put (some 0) (pt a 0)) = s4 := by rw [yT n]
    rw [← d]
    have c := Below.refl w5.heap.size w5
    refine zH (zS ?_)
    exact ⟨rfl, fn _ _ c (xI.trans (congrArg Fm.ds d)) (fun t ht => (yP ht).trans (congrArg (fun q => q.f t) d)) (show Fm.f _ _ = _ from by kernel_rfl)⟩
   ·skip
    intro co fc fb iy ih e4 Z19 fp
    have iw := j.trans (fb.mono j.size)
    have ax : co.f 10 = (pt a 0) := e4 0 zk
    have d : (co.put (some 10) (pt a 0)) = co := by rw [yT ax]
    rw [← d]
    have c := Below.refl fc.heap.size fc
    refine zr (pt a 0) (zS ?_)
    exact ⟨rfl, fp _ _ c (xI.trans (congrArg Fm.ds d)) (fun t ht => (yP ht).trans (congrArg (fun q => q.f t) d)) (show Fm.f _ _ = _ from by kernel_rfl)⟩
   ·skip
    intro eo e5 fe h0 iv fj Z28 fx
    have h6 := j.trans (fe.mono j.size)
    have u : eo.f 11 = (pt a 0) := fj 1 zk
    have d : (eo.put (some 11) (pt a 0)) = eo := by rw [yT u]
    rw [← d]
    have c := Below.refl e5.heap.size e5
    refine zr (pt a 1) (zS ?_)
    exact ⟨rfl, fx _ _ c (xI.trans (congrArg Fm.ds d)) (fun t ht => (yP ht).trans (congrArg (fun q => q.f t) d)) (show Fm.f _ _ = _ from by kernel_rfl)⟩
   ·skip
    intro ei e6 fh ij hx fu Z37 fi
    have e3 := j.trans (fh.mono j.size)
    have ad : ei.f 12 = (pt a 1) := fu 2 zk
    have d : (ei.put (some 12) (pt a 1)) = ei := by rw [yT ad]
    rw [← d]
    have c := Below.refl e6.heap.size e6
    have m := zC m e3
    refine zO 1 m rfl (zS ?_)
    exact ⟨rfl, fi _ _ c (xI.trans (congrArg Fm.ds d)) (fun t ht => (yP ht).trans (congrArg (fun q => q.f t) d)) (show Fm.f _ _ = _ from by kernel_rfl)⟩
   ·skip
    intro c4 fq fa h3 id e1 Z46 fg
    have ii := j.trans (fa.mono j.size)
    have aq : c4.f 13 = (I6 ln) := e1 3 zk
    have d : (c4.put (some 13) (I6 ln)) = c4 := by rw [yT aq]
    rw [← d]
    have c := Below.refl fq.heap.size fq
    refine zc (c_itoa2 ln _ (by first | omega | (simp; omega))) ?_
    rintro _ i3 ⟨rfl, fs⟩
    replace c := c.trans (fs.mono c.size)
    have := dg2_len ln
    refine zS ?_
    exact ⟨rfl, fg _ _ c (xI.trans (congrArg Fm.ds d)) (fun t ht => (yP ht).trans (congrArg (fun q => q.f t) d)) (show Fm.f _ _ = _ from by kernel_rfl)⟩
   ·skip
    intro c8 es fd ie hz fv Z58 e8
    have ix := j.trans (fd.mono j.size)
    have az : c8.f 14 = (S (dg2 ln)) := fv 4 zk
    have d : (c8.put (some 14) (S (dg2 ln))) = c8 := by rw [yT az]
    rw [← d]
    have c := Below.refl es.heap.size es
    refine L_sadd ([108, 105, 110, 101, 32] : List UInt8) (dg2 ln) (by (simp only [List.length_append, List.length_cons, List.length_nil]; omega)) zk zk (zS ?_)
    exact ⟨rfl, e8 _ _ c (xI.trans (congrArg Fm.ds d)) (fun t ht => (yP ht).trans (congrArg (fun q => q.f t) d)) (show Fm.f _ _ = _ from by kernel_rfl)⟩
   ·skip
    intro d6 fk ew ir ib e0 Z67 fy
    have hw := j.trans (ew.mono j.size)
    have ao : d6.f 15 = (S (([108, 105, 110, 101, 32] : List UInt8) ++ (dg2 ln))) := e0 5 zk
    have d : (d6.put (some 15) (S (([108, 105, 110, 101, 32] : List UInt8) ++ (dg2 ln)))) = d6 := by rw [yT ao]
    rw [← d]
    have c := Below.refl fk.heap.size fk
    refine L_sadd (([108, 105, 110, 101, 32] : List UInt8) ++ (dg2 ln)) ([58, 32] : List UInt8) (by (simp only [List.length_append, List.length_cons, List.length_nil]; omega)) zk zk (zS ?_)
    exact ⟨rfl, fy _ _ c (xI.trans (congrArg Fm.ds d)) (fun t ht => (yP ht).trans (congrArg (fun q => q.f t) d)) (show Fm.f _ _ = _ from by kernel_rfl)⟩
   ·skip
    intro ec ff fo h2 ex ic Z76 e7
    have io := j.trans (fo.mono j.size)
    have n : ec.f 0 = (pt a 0) := (ex 0 zk).trans zk
    have d : (ec.put (some 0) (pt a 0)) = ec := by rw [yT n]
    rw [← d]
    have c := Below.refl ff.heap.size ff
    refine zH (zS ?_)
    exact ⟨rfl, e7 _ _ c (xI.trans (congrArg Fm.ds d)) (fun t ht => (yP ht).trans (congrArg (fun q => q.f t) d)) (show Fm.f _ _ = _ from by kernel_rfl)⟩
   ·skip
    intro de e9 fm il iz fr Z85 ey
    have i2 := j.trans (fm.mono j.size)
    have ah : de.f 17 = (pt a 0) := fr 7 zk
    have d : (de.put (some 17) (pt a 0)) = de := by rw [yT ah]
    rw [← d]
    have c := Below.refl e9.heap.size e9
    refine zr (pt a 0) (zS ?_)
    exact ⟨rfl, ey _ _ c (xI.trans (congrArg Fm.ds d)) (fun t ht => (yP ht).trans (congrArg (fun q => q.f t) d)) (show Fm.f _ _ = _ from by kernel_rfl)⟩
   ·skip
    intro en eu ez hy h7 ev Z94 et
    have im := j.trans (ez.mono j.size)
    have ak : en.f 18 = (pt a 0) := ev 8 zk
    have d : (en.put (some 18) (pt a 0)) = en := by rw [yT ak]
    rw [← d]
    have c := Below.refl eu.heap.size eu
    refine zr (pt a 2) (zS ?_)
    exact ⟨rfl, et _ _ c (xI.trans (congrArg Fm.ds d)) (fun t ht => (yP ht).trans (congrArg (fun q => q.f t) d)) (show Fm.f _ _ = _ from by kernel_rfl)⟩
   ·skip
    intro d4 ft fw gr gf cj Z103 cw
    have cf := j.trans (fw.mono j.size)
    have af : d4.f 19 = (pt a 2) := cj 9 zk
    have d : (d4.put (some 19) (pt a 2)) = d4 := by rw [yT af]
    rw [← d]
    have c := Below.refl ft.heap.size ft
    have m := zC m cf
    refine zO 2 m rfl (zS ?_)
    exact ⟨rfl, cw _ _ c (xI.trans (congrArg Fm.ds d)) (fun t ht => (yP ht).trans (congrArg (fun q => q.f t) d)) (show Fm.f _ _ = _ from by kernel_rfl)⟩
   ·skip
    intro bg b7 d8 g4 gw cn Z112 ef
    have gb := j.trans (d8.mono j.size)
    have s : bg.f 20 = (I6 cd) := cn 10 zk
    have d : (bg.put (some 20) (I6 cd)) = bg := by rw [yT s]
    rw [← d]
    have c := Below.refl b7.heap.size b7
    refine zc (c_Errno_Error cd _ (by first | omega | (simp; omega))) ?_
    rintro _ ia ⟨rfl, dz⟩
    replace c := c.trans (dz.mono c.size)
    have := errD_len cd
    refine zS ?_
    exact ⟨rfl, ef _ _ c (xI.trans (congrArg Fm.ds d)) (fun t ht => (yP ht).trans (congrArg (fun q => q.f t) d)) (show Fm.f _ _ = _ from by kernel_rfl)⟩
   skip
   intro ap b5 ek hg gz a9 Z124 dt
   have g2 := j.trans (ek.mono j.size)
   have z : ap.f 16 = (S ((([108, 105, 110, 101, 32] : List UInt8) ++ (dg2 ln)) ++ ([58, 32] : List UInt8))) := a9 6 zk
   have al : ap.f 21 = (S (errD cd)) := a9 11 zk
   have d : ((ap.put (some 16) (S ((([108, 105, 110, 101, 32] : List UInt8) ++ (dg2 ln)) ++ ([58, 32] : List UInt8)))).put (some 21) (S (errD cd))) = ap := by rw [yT z, yT al]
   rw [← d]
   have c := Below.refl b5.heap.size b5
   refine L_sadd ((([108, 105, 110, 101, 32] : List UInt8) ++ (dg2 ln)) ++ ([58, 32] : List UInt8)) (errD cd) (by (simp only [List.length_append, List.length_cons, List.length_nil]; omega)) zk zk (zS ?_)
   exact ⟨rfl, dt _ _ c (xI.trans (congrArg Fm.ds d)) (fun t ht => (yP ht).trans (congrArg (fun q => q.f t) d)) (show Fm.f _ _ = _ from by kernel_rfl)⟩
  skip
  intro h8 k iq bl di c0 ck i
  have dl := bl.trans (di.mono bl.size)
  have ax : k.f 10 = (pt a 0) := i 0 zo
  have u : k.f 11 = (pt a 0) := i 1 zo
  have ad : k.f 12 = (pt a 1) := i 2 zo
  have aq : k.f 13 = (I6 ln) := i 3 zo
  have az : k.f 14 = (S (dg2 ln)) := i 4 zo
  have ao : k.f 15 = (S (([108, 105, 110, 101, 32] : List UInt8) ++ (dg2 ln))) := i 5 zo
  have z : k.f 16 = (S ((([108, 105, 110, 101, 32] : List UInt8) ++ (dg2 ln)) ++ ([58, 32] : List UInt8))) := i 6 zo
  have ah : k.f 17 = (pt a 0) := i 7 zo
  have ak : k.f 18 = (pt a 0) := i 8 zo
  have af : k.f 19 = (pt a 2) := i 9 zo
  have s : k.f 20 = (I6 cd) := i 10 zo
  have al : k.f 21 = (S (errD cd)) := i 11 zo
  have bo : k.f 22 = (S (((([108, 105, 110, 101, 32] : List UInt8) ++ (dg2 ln)) ++ ([58, 32] : List UInt8)) ++ (errD cd))) := i 12 zo
  have bu := frm_eq [10, 11, 12, 13, 14, 15, 16, 17, 18, 19, 20, 21, 22] [(pt a 0), (pt a 0), (pt a 1), (I6 ln), (S (dg2 ln)), (S (([108, 105, 110, 101, 32] : List UInt8) ++ (dg2 ln))), (S ((([108, 105, 110, 101, 32] : List UInt8) ++ (dg2 ln)) ++ ([58, 32] : List UInt8))), (pt a 0), (pt a 0), (pt a 2), (I6 cd), (S (errD cd)), (S (((([108, 105, 110, 101, 32] : List UInt8) ++ (dg2 ln)) ++ ([58, 32] : List UInt8)) ++ (errD cd)))] rfl c0 ck ⟨ax, u, ad, aq, az, ao, z, ah, ak, af, s, al, bo, trivial⟩
  rw [bu]
  clear bu ax u ad aq az ao z ah ak af s al bo
  refine ip 13 rfl (S (((([108, 105, 110, 101, 32] : List UInt8) ++ (dg2 ln)) ++ ([58, 32] : List UInt8)) ++ (errD cd))) (I_done zk ?_)
  have l := l.tr dl
  exact zD (zW (zK (yF [(S (((([108, 105, 110, 101, 32] : List UInt8) ++ (dg2 ln)) ++ ([58, 32] : List UInt8)) ++ (errD cd)))] ⟨congrArg S (by (unfold fltD; rw [if_pos za]; done)), l⟩)))
 intro i0
 refine nQ (zF (zP (zD (yA (W_invL 18 19 1 [23, 24, 25, 26, 27, 28, 29, 30, 31, 32, 33, 34, 35, 36, 37, 38, 39, 40] [(fun v _ => v = (pt a 0)), (fun v _ => v = (pt a 0)), (fun v _ => v = (pt a 0)), (fun v _ => v = (S fl)), (fun v _ => v = (S (fl ++ ([58] : List UInt8)))), (fun v _ => v = (pt a 0)), (fun v _ => v = (pt a 0)), (fun v _ => v = (pt a 1)), (fun v _ => v = (I6 ln)), (fun v _ => v = (S (dg2 ln))), (fun v _ => v = (S ((fl ++ ([58] : List UInt8)) ++ (dg2 ln)))), (fun v _ => v = (S (((fl ++ ([58] : List UInt8)) ++ (dg2 ln)) ++ ([58, 32] : List UInt8)))), (fun v _ => v = (pt a 0)), (fun v _ => v = (pt a 0)), (fun v _ => v = (pt a 2)), (fun v _ => v = (I6 cd)), (fun v _ => v = (S (errD cd))), (fun v _ => v = (S ((((fl ++ ([58] : List UInt8)) ++ (dg2 ln)) ++ ([58, 32] : List UInt8)) ++ (errD cd))))] zk zk zk zk zk zk zk zk ⟨(fun v A B h l => h), (fun v A B h l => h), (fun v A B h l => h), (fun v A B h l => h), (fun v A B h l => h), (fun v A B h l => h), (fun v A B h l => h), (fun v A B h l => h), (fun v A B h l => h), (fun v A B h l => h), (fun v A B h l => h), (fun v A B h l => h), (fun v A B h l => h), (fun v A B h l => h), (fun v A B h l => h), (fun v A B h l => h), (fun v A B h l => h), (fun v A B h l => h), trivial⟩ ?_ ?_)))))
 ·intro iu b
  refine ⟨?_, ?_, ?_, ?_, ?_, ?_, ?_, ?_, ?_, ?_, ?_, ?_, ?_, ?_, ?_, ?_, ?_, ?_, trivial⟩
  ·skip
   intro a2 b4 dh hj cr hp Z146 dn
   have ho := b.trans (dh.mono b.size)
   have n : a2.f 0 = (pt a 0) := (cr 0 zk).trans zk
   have d : (a2.put (some 0) (pt a 0)) = a2 := by rw [yT n]
   rw [← d]
   have c := Below.refl b4.heap.size b4
   refine zH (zS ?_)
   exact ⟨rfl, dn _ _ c (xI.trans (congrArg Fm.ds d)) (fun t ht => (yP ht).trans (congrArg (fun q => q.f t) d)) (show Fm.f _ _ = _ from by kernel_rfl)⟩
  ·skip
   intro bb b2 d0 hr ha eh Z155 d9
   have gu := b.trans (d0.mono b.size)
   have ay : bb.f 23 = (pt a 0) := eh 0 zk
   have d : (bb.put (some 23) (pt a 0)) = bb := by rw [yT ay]
   rw [← d]
   have c := Below.refl b2.heap.size b2
   refine zr (pt a 0) (zS ?_)
   exact ⟨rfl, d9 _ _ c (xI.trans (congrArg Fm.ds d)) (fun t ht => (yP ht).trans (congrArg (fun q => q.f t) d)) (show Fm.f _ _ = _ from by kernel_rfl)⟩
  ·skip
   intro a1 ca du g8 g1 d2 Z164 eb
   have f6 := b.trans (du.mono b.size)
   have o : a1.f 24 = (pt a 0) := d2 1 zk
   have d : (a1.put (some 24) (pt a 0)) = a1 := by rw [yT o]
   rw [← d]
   have c := Below.refl ca.heap.size ca
   refine zr (pt a 0) (zS ?_)
   exact ⟨rfl, eb _ _ c (xI.trans (congrArg Fm.ds d)) (fun t ht => (yP ht).trans (congrArg (fun q => q.f t) d)) (show Fm.f _ _ = _ from by kernel_rfl)⟩
  ·skip
   intro bi b0 cy gy hu cu Z173 dj
   have cg := b.trans (cy.mono b.size)
   have ae : bi.f 25 = (pt a 0) := cu 2 zk
   have d : (bi.put (some 25) (pt a 0)) = bi := by rw [yT ae]
   rw [← d]
   have c := Below.refl b0.heap.size b0
   have m := zC m cg
   refine zO 0 m rfl (zS ?_)
   exact ⟨rfl, dj _ _ c (xI.trans (congrArg Fm.ds d)) (fun t ht => (yP ht).trans (congrArg (fun q => q.f t) d)) (show Fm.f _ _ = _ from by kernel_rfl)⟩
  ·skip
   intro a7 b9 dp f1 fz ee Z182 ce
   have hi := b.trans (dp.mono b.size)
   have ar : a7.f 26 = (S fl) := ee 3 zk
   have d : (a7.put (some 26) (S fl)) = a7 := by rw [yT ar]
   rw [← d]
   have c := Below.refl b9.heap.size b9
   refine L_sadd fl ([58] : List UInt8) (by (simp only [List.length_append, List.length_cons, List.length_nil]; omega)) zk zk (zS ?_)
   exact ⟨rfl, ce _ _ c (xI.trans (congrArg Fm.ds d)) (fun t ht => (yP ht).trans (congrArg (fun q => q.f t) d)) (show Fm.f _ _ = _ from by kernel_rfl)⟩
  ·skip
   intro a6 bp cq gq ch hm Z191 cc
   have gv := b.trans (cq.mono b.size)
   have n : a6.f 0 = (pt a 0) := (ch 0 zk).trans zk
   have d : (a6.put (some 0) (pt a 0)) = a6 := by rw [yT n]
   rw [← d]
   have c := Below.refl bp.heap.size bp
   refine zH (zS ?_)
   exact ⟨rfl, cc _ _ c (xI.trans (congrArg Fm.ds d)) (fun t ht => (yP ht).trans (congrArg (fun q => q.f t) d)) (show Fm.f _ _ = _ from by kernel_rfl)⟩
  ·skip
   intro bc b8 dd f8 g6 c7 Z200 cp
   have gd := b.trans (dd.mono b.size)
   have y : bc.f 28 = (pt a 0) := c7 5 zk
   have d : (bc.put (some 28) (pt a 0)) = bc := by rw [yT y]
   rw [← d]
   have c := Below.refl b8.heap.size b8
   refine zr (pt a 0) (zS ?_)
   exact ⟨rfl, cp _ _ c (xI.trans (congrArg Fm.ds d)) (fun t ht => (yP ht).trans (congrArg (fun q => q.f t) d)) (show Fm.f _ _ = _ from by kernel_rfl)⟩
  ·skip
   intro bh br dv gl g5 dg Z209 el
   have g0 := b.trans (dv.mono b.size)
   have a0 : bh.f 29 = (pt a 0) := dg 6 zk
   have d : (bh.put (some 29) (pt a 0)) = bh := by rw [yT a0]
   rw [← d]
   have c := Below.refl br.heap.size br
   refine zr (pt a 1) (zS ?_)
   exact ⟨rfl, el _ _ c (xI.trans (congrArg Fm.ds d)) (fun t ht => (yP ht).trans (congrArg (fun q => q.f t) d)) (show Fm.f _ _ = _ from by kernel_rfl)⟩
  ·skip
   intro bf bz d5 gi hs ep Z218 ea
   have dm := b.trans (d5.mono b.size)
   have p : bf.f 30 = (pt a 1) := ep 7 zk
   have d : (bf.put (some 30) (pt a 1)) = bf := by rw [yT p]
   rw [← d]
   have c := Below.refl bz.heap.size bz
   have m := zC m dm
   refine zO 1 m rfl (zS ?_)
   exact ⟨rfl, ea _ _ c (xI.trans (congrArg Fm.ds d)) (fun t ht => (yP ht).trans (congrArg (fun q => q.f t) d)) (show Fm.f _ _ = _ from by kernel_rfl)⟩
  ·skip
   intro a8 b3 ci hl gs c9 Z227 dx
   have g9 := b.trans (ci.mono b.size)
   have an : a8.f 31 = (I6 ln) := c9 8 zk
   have d : (a8.put (some 31) (I6 ln)) = a8 := by rw [yT an]
   rw [← d]
   have c := Below.refl b3.heap.size b3
   refine zc (c_itoa2 ln _ (by first | omega | (simp; omega))) ?_
   rintro _ i1 ⟨rfl, dc⟩
   replace c := c.trans (dc.mono c.size)
   have := dg2_len ln
   refine zS ?_
   exact ⟨rfl, dx _ _ c (xI.trans (congrArg Fm.ds d)) (fun t ht => (yP ht).trans (congrArg (fun q => q.f t) d)) (show Fm.f _ _ = _ from by kernel_rfl)⟩
  ·skip
   intro av bs db hv g3 bm Z239 cv
   have f3 := b.trans (db.mono b.size)
   have r : av.f 27 = (S (fl ++ ([58] : List UInt8))) := bm 4 zk
   have ac : av.f 32 = (S (dg2 ln)) := bm 9 zk
   have d : ((av.put (some 27) (S (fl ++ ([58] : List UInt8)))).put (some 32) (S (dg2 ln))) = av := by rw [yT r, yT ac]
   rw [← d]
   have c := Below.refl bs.heap.size bs
   refine L_sadd (fl ++ ([58] : List UInt8)) (dg2 ln) (by (simp only [List.length_append, List.length_cons, List.length_nil]; omega)) zk zk (zS ?_)
   exact ⟨rfl, cv _ _ c (xI.trans (congrArg Fm.ds d)) (fun t ht => (yP ht).trans (congrArg (fun q => q.f t) d)) (show Fm.f _ _ = _ from by kernel_rfl)⟩
  ·skip
   intro bd b6 cl gk gp ej Z248 c1
   have f9 := b.trans (cl.mono b.size)
   have ai : bd.f 33 = (S ((fl ++ ([58] : List UInt8)) ++ (dg2 ln))) := ej 10 zk
   have d : (bd.put (some 33) (S ((fl ++ ([58] : List UInt8)) ++ (dg2 ln)))) = bd := by rw [yT ai]
   rw [← d]
   have c := Below.refl b6.heap.size b6
   refine L_sadd ((fl ++ ([58] : List UInt8)) ++ (dg2 ln)) ([58, 32] : List UInt8) (by (simp only [List.length_append, List.length_cons, List.length_nil]; omega)) zk zk (zS ?_)
   exact ⟨rfl, c1 _ _ c (xI.trans (congrArg Fm.ds d)) (fun t ht => (yP ht).trans (congrArg (fun q => q.f t) d)) (show Fm.f _ _ = _ from by kernel_rfl)⟩
  ·skip
   intro bj bt c3 f7 ed f5 Z257 c2
   have hc := b.trans (c3.mono b.size)
   have n : bj.f 0 = (pt a 0) := (ed 0 zk).trans zk
   have d : (bj.put (some 0) (pt a 0)) = bj := by rw [yT n]
   rw [← d]
   have c := Below.refl bt.heap.size bt
   refine zH (zS ?_)
   exact ⟨rfl, c2 _ _ c (xI.trans (congrArg Fm.ds d)) (fun t ht => (yP ht).trans (congrArg (fun q => q.f t) d)) (show Fm.f _ _ = _ from by kernel_rfl)⟩
  ·skip
   intro be bq cz he gm eg Z266 df
   have gg := b.trans (cz.mono b.size)
   have au : be.f 35 = (pt a 0) := eg 12 zk
   have d : (be.put (some 35) (pt a 0)) = be := by rw [yT au]
   rw [← d]
   have c := Below.refl bq.heap.size bq
   refine zr (pt a 0) (zS ?_)
   exact ⟨rfl, df _ _ c (xI.trans (congrArg Fm.ds d)) (fun t ht => (yP ht).trans (congrArg (fun q => q.f t) d)) (show Fm.f _ _ = _ from by kernel_rfl)⟩
  ·skip
   intro a5 b1 da g7 go dy Z275 ct
   have f0 := b.trans (da.mono b.size)
   have ag : a5.f 36 = (pt a 0) := dy 13 zk
   have d : (a5.put (some 36) (pt a 0)) = a5 := by rw [yT ag]
   rw [← d]
   have c := Below.refl b1.heap.size b1
   refine zr (pt a 2) (zS ?_)
   exact ⟨rfl, ct _ _ c (xI.trans (congrArg Fm.ds d)) (fun t ht => (yP ht).trans (congrArg (fun q => q.f t) d)) (show Fm.f _ _ = _ from by kernel_rfl)⟩
  ·skip
   intro ba bw dk gc hh er Z284 d1
   have c6 := b.trans (dk.mono b.size)
   have am : ba.f 37 = (pt a 2) := er 14 zk
   have d : (ba.put (some 37) (pt a 2)) = ba := by rw [yT am]
   rw [← d]
   have c := Below.refl bw.heap.size bw
   have m := zC m c6
   refine zO 2 m rfl (zS ?_)
   exact ⟨rfl, d1 _ _ c (xI.trans (congrArg Fm.ds d)) (fun t ht => (yP ht).trans (congrArg (fun q => q.f t) d)) (show Fm.f _ _ = _ from by kernel_rfl)⟩
  ·skip
   intro a4 bn d3 gh hk c5 Z293 dw
   have gx := b.trans (d3.mono b.size)
   have aj : a4.f 38 = (I6 cd) := c5 15 zk
   have d : (a4.put (some 38) (I6 cd)) = a4 := by rw [yT aj]
   rw [← d]
   have c := Below.refl bn.heap.size bn
   refine zc (c_Errno_Error cd _ (by first | omega | (simp; omega))) ?_
   rintro _ ik ⟨rfl, dr⟩
   replace c := c.trans (dr.mono c.size)
   have := errD_len cd
   refine zS ?_
   exact ⟨rfl, dw _ _ c (xI.trans (congrArg Fm.ds d)) (fun t ht => (yP ht).trans (congrArg (fun q => q.f t) d)) (show Fm.f _ _ = _ from by kernel_rfl)⟩
  skip
  intro ab bv cm ga f2 bk Z305 cs
  have f4 := b.trans (cm.mono b.size)
  have aa : ab.f 34 = (S (((fl ++ ([58] : List UInt8)) ++ (dg2 ln)) ++ ([58, 32] : List UInt8))) := bk 11 zk
  have aw : ab.f 39 = (S (errD cd)) := bk 16 zk
  have d : ((ab.put (some 34) (S (((fl ++ ([58] : List UInt8)) ++ (dg2 ln)) ++ ([58, 32] : List UInt8)))).put (some 39) (S (errD cd))) = ab := by rw [yT aa, yT aw]
  rw [← d]
  have c := Below.refl bv.heap.size bv
  refine L_sadd (((fl ++ ([58] : List UInt8)) ++ (dg2 ln)) ++ ([58, 32] : List UInt8)) (errD cd) (by (simp only [List.length_append, List.length_cons, List.length_nil]; omega)) zk zk (zS ?_)
  exact ⟨rfl, cs _ _ c (xI.trans (congrArg Fm.ds d)) (fun t ht => (yP ht).trans (congrArg (fun q => q.f t) d)) (show Fm.f _ _ = _ from by kernel_rfl)⟩
 skip
 intro h5 g ig a3 dq em d7 e
 have cx := a3.trans (dq.mono a3.size)
 have ay : g.f 23 = (pt a 0) := e 0 zo
 have o : g.f 24 = (pt a 0) := e 1 zo
 have ae : g.f 25 = (pt a 0) := e 2 zo
 have ar : g.f 26 = (S fl) := e 3 zo
 have r : g.f 27 = (S (fl ++ ([58] : List UInt8))) := e 4 zo
 have y : g.f 28 = (pt a 0) := e 5 zo
 have a0 : g.f 29 = (pt a 0) := e 6 zo
 have p : g.f 30 = (pt a 1) := e 7 zo
 have an : g.f 31 = (I6 ln) := e 8 zo
 have ac : g.f 32 = (S (dg2 ln)) := e 9 zo
 have ai : g.f 33 = (S ((fl ++ ([58] : List UInt8)) ++ (dg2 ln))) := e 10 zo
 have aa : g.f 34 = (S (((fl ++ ([58] : List UInt8)) ++ (dg2 ln)) ++ ([58, 32] : List UInt8))) := e 11 zo
 have au : g.f 35 = (pt a 0) := e 12 zo
 have ag : g.f 36 = (pt a 0) := e 13 zo
 have am : g.f 37 = (pt a 2) := e 14 zo
 have aj : g.f 38 = (I6 cd) := e 15 zo
 have aw : g.f 39 = (S (errD cd)) := e 16 zo
 have bx : g.f 40 = (S ((((fl ++ ([58] : List UInt8)) ++ (dg2 ln)) ++ ([58, 32] : List UInt8)) ++ (errD cd))) := e 17 zo
 have cb := frm_eq [23, 24, 25, 26, 27, 28, 29, 30, 31, 32, 33, 34, 35, 36, 37, 38, 39, 40] [(pt a 0), (pt a 0), (pt a 0), (S fl), (S (fl ++ ([58] : List UInt8))), (pt a 0), (pt a 0), (pt a 1), (I6 ln), (S (dg2 ln)), (S ((fl ++ ([58] : List UInt8)) ++ (dg2 ln))), (S (((fl ++ ([58] : List UInt8)) ++ (dg2 ln)) ++ ([58, 32] : List UInt8))), (pt a 0), (pt a 0), (pt a 2), (I6 cd), (S (errD cd)), (S ((((fl ++ ([58] : List UInt8)) ++ (dg2 ln)) ++ ([58, 32] : List UInt8)) ++ (errD cd)))] rfl em d7 ⟨ay, o, ae, ar, r, y, a0, p, an, ac, ai, aa, au, ag, am, aj, aw, bx, trivial⟩
 rw [cb]
 clear cb ay o ae ar r y a0 p an ac ai aa au ag am aj aw bx
 refine ip 18 rfl (S ((((fl ++ ([58] : List UInt8)) ++ (dg2 ln)) ++ ([58, 32] : List UInt8)) ++ (errD cd))) (I_done zk ?_)
 have l := l.tr cx
 exact zD (zW (yF [(S ((((fl ++ ([58] : List UInt8)) ++ (dg2 ln)) ++ ([58, 32] : List UInt8)) ++ (errD cd)))] ⟨congrArg S (by (unfold fltD; rw [if_neg za]; done)), l⟩))
theorem c_read_ok (no : Int) (k : Int) (m : List UInt8) (z : Value) (f : List (List UInt8)) (t : List UInt8) (w : World) (g : Rd w encStr z f) (hf : ∀ x ∈ f, x.length ≤ 1073741824) (hn : f.length ≤ 1073741824) (hok : (readB k f).2.2 = 0) :
  Calls Tryz.prog 40 #[(Value.agg #[(I6 no), (U8 k), (S m), z, (S t)])] w (Ret fun v w' => v = (.tuple #[(Value.agg #[(I3 ((readB k f).1.1)), (I3 ((readB k f).1.2.1)), (U8 ((readB k f).1.2.2))]), (.bool ((readB k f).2.1)), .nilIface]) ∧ Below w.heap.size w w') := by
 refine wG 67 func40 rfl ?_
 have n := Below.refl w.heap.size w
 refine wR (zN [(I6 no), (U8 k), (S m), z, (S t)] 90 ?_)
 intro b1 w2 o
 have ak := o.ge n.size
 have b := o.here
 refine zN [(I3 0), (I3 0), (U8 0)] 26 ?_
 intro b4 w5 j
 have n := n.tr o.below
 have s := j.ge n.size
 have a := j.here
 have b := zC b j.below
 refine zI (zI (nW (wR (zFO 1 b rfl (nQ (zY (wR (zEq .u8 k 2 ?_ ?_))))))))
 ·intro h7
  refine zI (nQ (zT (wR (zr (Value.agg #[(I3 0), (I3 0), (U8 0)]) (zr (.iface 28 (I6 80)) (zAW [(I3 0), (I3 0), (U8 0)] a ?_))))))
  intro w8 aj
  have a := aj.here
  refine zI (zI (nQ (zW (zR (zK (xF [.cell 2 26, .tmp 3, .tmp 4] [(Value.agg #[(I3 0), (I3 0), (U8 0)]), (.bool false), (.iface 28 (I6 80))] rfl rfl ⟨⟨⟨b4, 0, none⟩, zk, xA [(I3 0), (I3 0), (U8 0)] zk zk (yV a)⟩, zk, zk, trivial⟩ ?_))))))
  exfalso; first | (rw [rd_order za] at hok; first | exact absurd hok za | exact absurd hok (by decide)) | (rw [rd_few za za] at hok; first | exact absurd hok za | exact absurd hok (by decide)) | (rw [rd_none za za] at hok; first | exact absurd hok za | exact absurd hok (by decide)) | (rw [rd_a za za za za] at hok; first | exact absurd hok za | exact absurd hok (by decide)) | (rw [rd_b za za za za za za] at hok; first | exact absurd hok za | exact absurd hok (by decide)) | (rw [rd_s za za za za za za za za] at hok; first | exact absurd hok za | exact absurd hok (by decide)) | (rw [rd_ok za za za za za za za za] at hok; first | exact absurd hok za | exact absurd hok (by decide))
 intro az
 refine zI (nQ (zF (wR (zEq .u8 k 1 ?_ ?_))))
 ·intro a6
  have g := (g.below o.below).below j.below
  refine zI (nQ (zT (wR (zFO 3 b rfl (zln underlying88 (g).len (nNe ((f).length) 3 ?_ ?_))))))
  ·intro aq
   refine nQ (zT (wR (zr (Value.agg #[(I3 0), (I3 0), (U8 0)]) (zr (.iface 28 (I6 80)) (zAW [(I3 0), (I3 0), (U8 0)] a ?_)))))
   intro a0 ab
   have a := ab.here
   refine zI (zI (nQ (zW (zR (zK (xF [.cell 2 26, .tmp 3, .tmp 4] [(Value.agg #[(I3 0), (I3 0), (U8 0)]), (.bool false), (.iface 28 (I6 80))] rfl rfl ⟨⟨⟨b4, 0, none⟩, zk, xA [(I3 0), (I3 0), (U8 0)] zk zk (yV a)⟩, zk, zk, trivial⟩ ?_))))))
   exfalso; first | (rw [rd_order za] at hok; first | exact absurd hok za | exact absurd hok (by decide)) | (rw [rd_few za za] at hok; first | exact absurd hok za | exact absurd hok (by decide)) | (rw [rd_none za za] at hok; first | exact absurd hok za | exact absurd hok (by decide)) | (rw [rd_a za za za za] at hok; first | exact absurd hok za | exact absurd hok (by decide)) | (rw [rd_b za za za za za za] at hok; first | exact absurd hok za | exact absurd hok (by decide)) | (rw [rd_s za za za za za za za za] at hok; first | exact absurd hok za | exact absurd hok (by decide)) | (rw [rd_ok za za za za za za za za] at hok; first | exact absurd hok za | exact absurd hok (by decide))
  intro an
  refine nQ (zF (zP (zJ (zD (wR (zFO 3 b rfl ?_))))))
  have hz := zU f 0 zo; obtain ⟨d, p⟩ := hz
  have ag := hf _ (List.mem_of_getElem? p)
  refine zE1 g el88 0 p rfl fun _ => (zc (c_points_Hex d _ zo) ?_)
  rintro _ am ⟨rfl, c⟩
  refine zH (zr (I3 ((hexF d).1)) (zr (I6 ((hexF d).2)) (zI (zI (nW (wR (zH (zNe .i64 ((hexF d).2) 0 ?_ ?_))))))))
  ·intro a3
   have a := zC a c
   refine nQ (zT (wR (zr (Value.agg #[(I3 0), (I3 0), (U8 0)]) (zH (zr (.iface 28 (I6 ((hexF d).2))) (zAW [(I3 0), (I3 0), (U8 0)] a ?_))))))
   intro a5 ah
   have a := ah.here
   refine zI (zI (nQ (zW (zK (xF [.cell 2 26, .tmp 3, .tmp 4] [(Value.agg #[(I3 0), (I3 0), (U8 0)]), (.bool false), (.iface 28 (I6 ((hexF d).2)))] rfl rfl ⟨⟨⟨b4, 0, none⟩, zk, xA [(I3 0), (I3 0), (U8 0)] zk zk (yV a)⟩, zk, zk, trivial⟩ ?_)))))
   exfalso; first | (rw [rd_order za] at hok; first | exact absurd hok za | exact absurd hok (by decide)) | (rw [rd_few za za] at hok; first | exact absurd hok za | exact absurd hok (by decide)) | (rw [rd_none za za] at hok; first | exact absurd hok za | exact absurd hok (by decide)) | (rw [rd_a za za za za] at hok; first | exact absurd hok za | exact absurd hok (by decide)) | (rw [rd_b za za za za za za] at hok; first | exact absurd hok za | exact absurd hok (by decide)) | (rw [rd_s za za za za za za za za] at hok; first | exact absurd hok za | exact absurd hok (by decide)) | (rw [rd_ok za za za za za za za za] at hok; first | exact absurd hok za | exact absurd hok (by decide))
  intro au
  have b := zC b c
  refine nQ (zF (zP (zD (wR (zFO 3 b rfl ?_)))))
  have hz := zU f 1 zo; obtain ⟨e, r⟩ := hz
  have ae := hf _ (List.mem_of_getElem? r)
  have g := g.below c
  refine zE1 g el88 1 r rfl fun _ => (zc (c_points_Hex e _ zo) ?_)
  rintro _ ay ⟨rfl, i⟩
  refine zH (zr (I3 ((hexF e).1)) (zr (I6 ((hexF e).2)) (zI (zI (nW (wR (zH (zNe .i64 ((hexF e).2) 0 ?_ ?_))))))))
  ·intro al
   have a := zC (zC a c) i
   refine nQ (zT (wR (zr (Value.agg #[(I3 0), (I3 0), (U8 0)]) (zH (zr (.iface 28 (I6 ((hexF e).2))) (zAW [(I3 0), (I3 0), (U8 0)] a ?_))))))
   intro ao af
   have a := af.here
   refine zI (zI (nQ (zW (zK (xF [.cell 2 26, .tmp 3, .tmp 4] [(Value.agg #[(I3 0), (I3 0), (U8 0)]), (.bool false), (.iface 28 (I6 ((hexF e).2)))] rfl rfl ⟨⟨⟨b4, 0, none⟩, zk, xA [(I3 0), (I3 0), (U8 0)] zk zk (yV a)⟩, zk, zk, trivial⟩ ?_)))))
   exfalso; first | (rw [rd_order za] at hok; first | exact absurd hok za | exact absurd hok (by decide)) | (rw [rd_few za za] at hok; first | exact absurd hok za | exact absurd hok (by decide)) | (rw [rd_none za za] at hok; first | exact absurd hok za | exact absurd hok (by decide)) | (rw [rd_a za za za za] at hok; first | exact absurd hok za | exact absurd hok (by decide)) | (rw [rd_b za za za za za za] at hok; first | exact absurd hok za | exact absurd hok (by decide)) | (rw [rd_s za za za za za za za za] at hok; first | exact absurd hok za | exact absurd hok (by decide)) | (rw [rd_ok za za za za za za za za] at hok; first | exact absurd hok za | exact absurd hok (by decide))
  intro ax
  have b := zC b i
  refine nQ (zF (zP (zD (wR (zFO 3 b rfl ?_)))))
  have hz := zU f 2 zo; obtain ⟨h, u⟩ := hz
  have ai := hf _ (List.mem_of_getElem? u)
  have g := g.below i
  refine zE1 g el88 2 u rfl fun _ => (zc (c_words_Side h _ zo) ?_)
  rintro _ aw ⟨rfl, l⟩
  refine zH (zr (U8 ((sideF h).1)) (zr (I6 ((sideF h).2)) (zI (zI (nW (wR (zH (zNe .i64 ((sideF h).2) 0 ?_ ?_))))))))
  ·intro a2
   have a := zC (zC (zC a c) i) l
   refine nQ (zT (wR (zr (Value.agg #[(I3 0), (I3 0), (U8 0)]) (zH (zr (.iface 28 (I6 ((sideF h).2))) (zAW [(I3 0), (I3 0), (U8 0)] a ?_))))))
   intro ap ad
   have a := ad.here
   refine zI (zI (nQ (zW (zK (xF [.cell 2 26, .tmp 3, .tmp 4] [(Value.agg #[(I3 0), (I3 0), (U8 0)]), (.bool false), (.iface 28 (I6 ((sideF h).2)))] rfl rfl ⟨⟨⟨b4, 0, none⟩, zk, xA [(I3 0), (I3 0), (U8 0)] zk zk (yV a)⟩, zk, zk, trivial⟩ ?_)))))
   exfalso; first | (rw [rd_order za] at hok; first | exact absurd hok za | exact absurd hok (by decide)) | (rw [rd_few za za] at hok; first | exact absurd hok za | exact absurd hok (by decide)) | (rw [rd_none za za] at hok; first | exact absurd hok za | exact absurd hok (by decide)) | (rw [rd_a za za za za] at hok; first | exact absurd hok za | exact absurd hok (by decide)) | (rw [rd_b za za za za za za] at hok; first | exact absurd hok za | exact absurd hok (by decide)) | (rw [rd_s za za za za za za za za] at hok; first | exact absurd hok za | exact absurd hok (by decide)) | (rw [rd_ok za za za za za za za za] at hok; first | exact absurd hok za | exact absurd hok (by decide))
  intro av
  have a := zC (zC (zC a c) i) l
  refine nQ (zF (zP (zD (wR (zH (zH (zH (zr (Value.agg #[(I3 ((hexF d).1)), (I3 ((hexF e).1)), (U8 ((sideF h).1))]) (zAW [(I3 ((hexF d).1)), (I3 ((hexF e).1)), (U8 ((sideF h).1))] a ?_)))))))))
  intro ar q
  have a := q.here
  refine zI (zI (nQ (zW (xF [.cell 2 26, .tmp 3, .tmp 4] [(Value.agg #[(I3 ((hexF d).1)), (I3 ((hexF e).1)), (U8 ((sideF h).1))]), (.bool true), .nilIface] rfl rfl ⟨⟨⟨b4, 0, none⟩, zk, xA [(I3 ((hexF d).1)), (I3 ((hexF e).1)), (U8 ((sideF h).1))] zk zk (yV a)⟩, zk, zk, trivial⟩ ?_))))
  have n := ((((n.tr j.below).tr c).tr i).tr l).trans (q.below s)
  exact ⟨tup3 (by (rw [rd_ok za za za za za za za za]; done)) (eb (by (rw [rd_ok za za za za za za za za]; done))) rfl, n⟩
 intro a1
 refine zI (nQ (zF (wR (zr (Value.agg #[(I3 0), (I3 0), (U8 0)]) (zAW [(I3 0), (I3 0), (U8 0)] a ?_)))))
 intro a4 y
 have a := y.here
 refine zI (zI (nQ (zW (zR (zK (xF [.cell 2 26, .tmp 3, .tmp 4] [(Value.agg #[(I3 0), (I3 0), (U8 0)]), (.bool false), .nilIface] rfl rfl ⟨⟨⟨b4, 0, none⟩, zk, xA [(I3 0), (I3 0), (U8 0)] zk zk (yV a)⟩, zk, zk, trivial⟩ ?_))))))
 have n := (n.tr j.below).trans (y.below s)
 exact ⟨tup3 (by (rw [rd_none za za]; done)) (eb (by (rw [rd_none za za]; done))) rfl, n⟩
theorem c_read_bad (no : Int) (k : Int) (m : List UInt8) (ac : Value) (f : List (List UInt8)) (t : List UInt8) (w : World) (h : Rd w encStr ac f) (hf : ∀ x ∈ f, x.length ≤ 1073741824) (hn : f.length ≤ 1073741824) (hbad : (readB k f).2.2 ≠ 0) :
  Calls Tryz.prog 40 #[(Value.agg #[(I6 no), (U8 k), (S m), ac, (S t)])] w (Ret fun v w' => v = (.tuple #[(Value.agg #[(I3 0), (I3 0), (U8 0)]), (.bool false), (.iface 28 (I6 ((readB k f).2.2)))]) ∧ Below w.heap.size w w') := by
 refine wG 67 func40 rfl ?_
 have l := Below.refl w.heap.size w
 refine wR (zN [(I6 no), (U8 k), (S m), ac, (S t)] 90 ?_)
 intro b1 w2 p
 have al := p.ge l.size
 have b := p.here
 refine zN [(I3 0), (I3 0), (U8 0)] 26 ?_
 intro b4 w5 j
 have l := l.tr p.below
 have n := j.ge l.size
 have a := j.here
 have b := zC b j.below
 refine zI (zI (nW (wR (zFO 1 b rfl (nQ (zY (wR (zEq .u8 k 2 ?_ ?_))))))))
 ·intro h7
  refine zI (nQ (zT (wR (zr (Value.agg #[(I3 0), (I3 0), (U8 0)]) (zr (.iface 28 (I6 80)) (zAW [(I3 0), (I3 0), (U8 0)] a ?_))))))
  intro w8 ai
  have a := ai.here
  refine zI (zI (nQ (zW (zR (zK (xF [.cell 2 26, .tmp 3, .tmp 4] [(Value.agg #[(I3 0), (I3 0), (U8 0)]), (.bool false), (.iface 28 (I6 80))] rfl rfl ⟨⟨⟨b4, 0, none⟩, zk, xA [(I3 0), (I3 0), (U8 0)] zk zk (yV a)⟩, zk, zk, trivial⟩ ?_))))))
  have l := (l.tr j.below).trans (ai.below n)
  exact ⟨tup3 rfl rfl (congrArg (fun z => Value.iface 28 (I6 z)) (by (rw [rd_order za]; done))), l⟩
 intro a0
 refine zI (nQ (zF (wR (zEq .u8 k 1 ?_ ?_))))
 ·intro a7
  have h := (h.below p.below).below j.below
  refine zI (nQ (zT (wR (zFO 3 b rfl (zln underlying88 (h).len (nNe ((f).length) 3 ?_ ?_))))))
  ·intro ar
   refine nQ (zT (wR (zr (Value.agg #[(I3 0), (I3 0), (U8 0)]) (zr (.iface 28 (I6 80)) (zAW [(I3 0), (I3 0), (U8 0)] a ?_)))))
   intro a1 r
   have a := r.here
   refine zI (zI (nQ (zW (zR (zK (xF [.cell 2 26, .tmp 3, .tmp 4] [(Value.agg #[(I3 0), (I3 0), (U8 0)]), (.bool false), (.iface 28 (I6 80))] rfl rfl ⟨⟨⟨b4, 0, none⟩, zk, xA [(I3 0), (I3 0), (U8 0)] zk zk (yV a)⟩, zk, zk, trivial⟩ ?_))))))
   have l := (l.tr j.below).trans (r.below n)
   exact ⟨tup3 rfl rfl (congrArg (fun z => Value.iface 28 (I6 z)) (by (rw [rd_few za za]; done))), l⟩
  intro ao
  refine nQ (zF (zP (zJ (zD (wR (zFO 3 b rfl ?_))))))
  have hz := zU f 0 zo; obtain ⟨e, q⟩ := hz
  have aj := hf _ (List.mem_of_getElem? q)
  refine zE1 h el88 0 q rfl fun _ => (zc (c_points_Hex e _ zo) ?_)
  rintro _ an ⟨rfl, c⟩
  refine zH (zr (I3 ((hexF e).1)) (zr (I6 ((hexF e).2)) (zI (zI (nW (wR (zH (zNe .i64 ((hexF e).2) 0 ?_ ?_))))))))
  ·intro a4
   have a := zC a c
   refine nQ (zT (wR (zr (Value.agg #[(I3 0), (I3 0), (U8 0)]) (zH (zr (.iface 28 (I6 ((hexF e).2))) (zAW [(I3 0), (I3 0), (U8 0)] a ?_))))))
   intro a6 ab
   have a := ab.here
   refine zI (zI (nQ (zW (zK (xF [.cell 2 26, .tmp 3, .tmp 4] [(Value.agg #[(I3 0), (I3 0), (U8 0)]), (.bool false), (.iface 28 (I6 ((hexF e).2)))] rfl rfl ⟨⟨⟨b4, 0, none⟩, zk, xA [(I3 0), (I3 0), (U8 0)] zk zk (yV a)⟩, zk, zk, trivial⟩ ?_)))))
   have l := ((l.tr j.below).tr c).trans (ab.below n)
   exact ⟨tup3 rfl rfl (congrArg (fun z => Value.iface 28 (I6 z)) (by (rw [rd_a za za za za]; done))), l⟩
  intro av
  have b := zC b c
  refine nQ (zF (zP (zD (wR (zFO 3 b rfl ?_)))))
  have hz := zU f 1 zo; obtain ⟨g, s⟩ := hz
  have ag := hf _ (List.mem_of_getElem? s)
  have h := h.below c
  refine zE1 h el88 1 s rfl fun _ => (zc (c_points_Hex g _ zo) ?_)
  rintro _ az ⟨rfl, d⟩
  refine zH (zr (I3 ((hexF g).1)) (zr (I6 ((hexF g).2)) (zI (zI (nW (wR (zH (zNe .i64 ((hexF g).2) 0 ?_ ?_))))))))
  ·intro am
   have a := zC (zC a c) d
   refine nQ (zT (wR (zr (Value.agg #[(I3 0), (I3 0), (U8 0)]) (zH (zr (.iface 28 (I6 ((hexF g).2))) (zAW [(I3 0), (I3 0), (U8 0)] a ?_))))))
   intro ap aa
   have a := aa.here
   refine zI (zI (nQ (zW (zK (xF [.cell 2 26, .tmp 3, .tmp 4] [(Value.agg #[(I3 0), (I3 0), (U8 0)]), (.bool false), (.iface 28 (I6 ((hexF g).2)))] rfl rfl ⟨⟨⟨b4, 0, none⟩, zk, xA [(I3 0), (I3 0), (U8 0)] zk zk (yV a)⟩, zk, zk, trivial⟩ ?_)))))
   have l := (((l.tr j.below).tr c).tr d).trans (aa.below n)
   exact ⟨tup3 rfl rfl (congrArg (fun z => Value.iface 28 (I6 z)) (by (rw [rd_b za za za za za za]; done))), l⟩
  intro ay
  have b := zC b d
  refine nQ (zF (zP (zD (wR (zFO 3 b rfl ?_)))))
  have hz := zU f 2 zo; obtain ⟨i, u⟩ := hz
  have ak := hf _ (List.mem_of_getElem? u)
  have h := h.below d
  refine zE1 h el88 2 u rfl fun _ => (zc (c_words_Side i _ zo) ?_)
  rintro _ ax ⟨rfl, o⟩
  refine zH (zr (U8 ((sideF i).1)) (zr (I6 ((sideF i).2)) (zI (zI (nW (wR (zH (zNe .i64 ((sideF i).2) 0 ?_ ?_))))))))
  ·intro a3
   have a := zC (zC (zC a c) d) o
   refine nQ (zT (wR (zr (Value.agg #[(I3 0), (I3 0), (U8 0)]) (zH (zr (.iface 28 (I6 ((sideF i).2))) (zAW [(I3 0), (I3 0), (U8 0)] a ?_))))))
   intro aq y
   have a := y.here
   refine zI (zI (nQ (zW (zK (xF [.cell 2 26, .tmp 3, .tmp 4] [(Value.agg #[(I3 0), (I3 0), (U8 0)]), (.bool false), (.iface 28 (I6 ((sideF i).2)))] rfl rfl ⟨⟨⟨b4, 0, none⟩, zk, xA [(I3 0), (I3 0), (U8 0)] zk zk (yV a)⟩, zk, zk, trivial⟩ ?_)))))
   have l := ((((l.tr j.below).tr c).tr d).tr o).trans (y.below n)
   exact ⟨tup3 rfl rfl (congrArg (fun z => Value.iface 28 (I6 z)) (by (rw [rd_s za za za za za za za za]; done))), l⟩
  intro aw
  have a := zC (zC (zC a c) d) o
  refine nQ (zF (zP (zD (wR (zH (zH (zH (zr (Value.agg #[(I3 ((hexF e).1)), (I3 ((hexF g).1)), (U8 ((sideF i).1))]) (zAW [(I3 ((hexF e).1)), (I3 ((hexF g).1)), (U8 ((sideF i).1))] a ?_)))))))))
  intro au ae
  have a := ae.here
  refine zI (zI (nQ (zW (xF [.cell 2 26, .tmp 3, .tmp 4] [(Value.agg #[(I3 ((hexF e).1)), (I3 ((hexF g).1)), (U8 ((sideF i).1))]), (.bool true), .nilIface] rfl rfl ⟨⟨⟨b4, 0, none⟩, zk, xA [(I3 ((hexF e).1)), (I3 ((hexF g).1)), (U8 ((sideF i).1))] zk zk (yV a)⟩, zk, zk, trivial⟩ ?_))))
  exfalso; first | (rw [rd_order za] at hbad; exact hbad rfl) | (rw [rd_few za za] at hbad; exact hbad rfl) | (rw [rd_none za za] at hbad; exact hbad rfl) | (rw [rd_a za za za za] at hbad; exact hbad rfl) | (rw [rd_b za za za za za za] at hbad; exact hbad rfl) | (rw [rd_s za za za za za za za za] at hbad; exact hbad rfl) | (rw [rd_ok za za za za za za za za] at hbad; exact hbad rfl)
 intro a2
 refine zI (nQ (zF (wR (zr (Value.agg #[(I3 0), (I3 0), (U8 0)]) (zAW [(I3 0), (I3 0), (U8 0)] a ?_)))))
 intro a5 ah
 have a := ah.here
 refine zI (zI (nQ (zW (zR (zK (xF [.cell 2 26, .tmp 3, .tmp 4] [(Value.agg #[(I3 0), (I3 0), (U8 0)]), (.bool false), .nilIface] rfl rfl ⟨⟨⟨b4, 0, none⟩, zk, xA [(I3 0), (I3 0), (U8 0)] zk zk (yV a)⟩, zk, zk, trivial⟩ ?_))))))
 exfalso; first | (rw [rd_order za] at hbad; exact hbad rfl) | (rw [rd_few za za] at hbad; exact hbad rfl) | (rw [rd_none za za] at hbad; exact hbad rfl) | (rw [rd_a za za za za] at hbad; exact hbad rfl) | (rw [rd_b za za za za za za] at hbad; exact hbad rfl) | (rw [rd_s za za za za za za za za] at hbad; exact hbad rfl) | (rw [rd_ok za za za za za za za za] at hbad; exact hbad rfl)
theorem c_code (e : Int) (w : World) (hty : w.cell? ⟨0, 0, none⟩ = some (.iface 180 (.agg #[.pointer (some ⟨7, 39, none⟩)]))) :
  Calls Tryz.prog 41 #[(.iface 28 (I6 e))] w (Ret fun v w' => v = (I6 e) ∧ Below w.heap.size w w') := by
 refine wG 8 func41 rfl ?_
 have b := Below.refl w.heap.size w
 refine wR (zI (nR (zN [(I6 0)] 28 ?_)))
 intro h i c
 have d := c.ge b.size
 have a := c.here
 have b := b.tr c.below
 refine nR (zH (zr (.iface 143 (pt h 0)) (zc (an_fk e h (I6 0) _ (wU hty b) a) ?_)))
 rintro _ k ⟨rfl, j, g, f⟩
 have a := f.here
 have b := (b.tr g).trans (f.below d)
 exact nR (zO 0 a rfl (zI (nQ (zW (yF [(I6 e)] ⟨rfl, b⟩)))))
end Go.Proofs.YtddnhlobnembaaaGreatDoor
end

/- === Wcb5 === -/
section
/- Walks, written by my program walk.py out of the specification cb5.py: each theorem says what one function returns and that it leaves memory as it was. -/
namespace Go.Proofs.YtddnhlobnembaaaGreatDoor
open Go Go.RowKit Go.FK _root_.Go.Proofs.Tryz
set_option maxHeartbeats 4000000
set_option maxRecDepth 100000
theorem c_Parse_ok (file : List UInt8) (text : List UInt8) (w : World) (hty : w.cell? ⟨0, 0, none⟩ = some (.iface 180 (.agg #[.pointer (some ⟨7, 39, none⟩)]))) (hs : text.length ≤ 67108864) (hok : (parF text).2.2 = 0) :
  Calls Tryz.prog 15 #[(S file), (S text)] w (Ret fun v w' => ∃ (cb0 mb0 : Nat), v = (.tuple #[(pt cb0 0), .nilIface]) ∧ w'.heap[cb0]? = some (.cells [(.map (some mb0)), (.map none)].toArray 69 (0, 0)) ∧ w.heap.size ≤ cb0 ∧ w'.heap[mb0]? = some (gmObj .i32 vBrk (kv (parF text).1.1)) ∧ w.heap.size ≤ mb0 ∧ Below w.heap.size w w') := by
 refine enterM (args := [(S file), (S text)]) func15 rfl (zk : _ = 83) zk ?_
 have hb := Below.refl w.heap.size w
 refine wR (zN [(S file)] 9 ?_)
 intro b1 w2 di
 have eh := di.ge hb.size
 have p := di.here
 refine zN [(.pointer none)] 27 ?_
 intro b4 w5 da
 have hb := hb.tr di.below
 have dy := da.ge hb.size
 have m := da.here
 refine zN [.nilIface] 39 ?_
 intro b7 w8 c1
 have hb := hb.tr da.below
 have d0 := c1.ge hb.size
 have n := c1.here
 refine nR (L_gmk (T := 66) .i32 vBrk ?_)
 intro bn fi a8
 have p := zC (zC p da.below) c1.below
 have cm := yZ (yC p) a8
 have m := zC m c1.below
 have bm := yZ (yC m) a8
 have cd := NE.symm bm
 have bi := yZ (yC n) a8
 have ce := NE.symm bi
 have hb := hb.tr c1.below
 have cc := a8.ge hb.size
 have j := a8.here
 refine zr (Value.agg #[(.map (some bn)), (.map none)]) (zN [(.map (some bn)), (.map none)] 69 ?_)
 intro bc fa be
 have cb := yZ (yC j) be
 have b2 := NE.symm cb
 have hb := hb.tr a8.below
 have dh := be.ge hb.size
 have b := be.here
 refine zN [(.pointer none)] 27 ?_
 intro dm fe a6
 have m := zC (zC m a8.below) be.below
 have cs := yZ (yC m) a6
 have j := zC j be.below
 have bh := yZ (yC j) a6
 have cl := NE.symm bh
 have hb := hb.tr be.below
 have d4 := a6.ge hb.size
 have q := a6.here
 refine z1 0 (pt bc 0) [(pt bc 0)] q ?_
 intro e7 bj
 have p := zC (zC (zC p a8.below) be.below) a6.below
 have p := zG p bj (zQ p q zi)
 have n := zC (zC (zC n a8.below) be.below) a6.below
 have n := zG n bj (zQ n q zi)
 have b := zC b a6.below
 have b := zG b bj (zQ b q zi)
 have q := bj.here
 refine nR (zN [(.slice none 0 0)] 22 ?_)
 intro de fd a5
 have j := zG (zC j a6.below) bj bh
 have bg := yZ (yC j) a5
 have cg := NE.symm bg
 have hb := (hb.tr a6.below).trans (bj.below d4)
 have dv := a5.ge hb.size
 have o := a5.here
 refine nR (zN [(.slice none 0 0)] 79 ?_)
 intro db fb a3
 have j := zC j a5.below
 have bl := yZ (yC j) a3
 have ci := NE.symm bl
 have hb := hb.tr a5.below
 have dr := a3.ge hb.size
 have r := a3.here
 refine nW (wR (zH (zc (c_lines_Each text _ ) ?_)))
 rintro _ aj ⟨bw, rfl, f, bv, ba⟩
 have j := zC j a3.below
 have bs := NE_ge (yC j) bv
 have bu := NE.symm bs
 have hb := hb.tr a3.below
 replace bv := Nat.le_trans hb.size bv
 refine nQ (zY ?_)
 have p := zC (zC (zC p a5.below) a3.below) ba
 have b3 : b1 < aj.heap.size := yC p
 have m := zC (zC (zC (zG (zC m a6.below) bj cs) a5.below) a3.below) ba
 have b9 : b4 < aj.heap.size := yC m
 have n := zC (zC (zC n a5.below) a3.below) ba
 have b5 : b7 < aj.heap.size := yC n
 have j := zC j ba
 have bb : bn < aj.heap.size := yC j
 have b := zC (zC (zC b a5.below) a3.below) ba
 have br : bc < aj.heap.size := yC b
 have q := zC (zC (zC q a5.below) a3.below) ba
 have b6 : dm < aj.heap.size := yC q
 have o := zC (zC o a3.below) ba
 have b0 : de < aj.heap.size := yC o
 have r := zC r ba
 have ca : db < aj.heap.size := yC r
 have a7 : bw < aj.heap.size := yC f
 have hb := hb.tr ba
 have cz := hb.size
 have ei := hb
 refine W_range 66 [(pt bw 0)] (toldF text) zk (fun _ _ => rfl) (it_lines_Each_1 bw text (by first | omega | assumption)) f ((fun D A B h hc hd => zZ h hc (fun h => Nat.not_lt.2 (hd _ h) a7))) (by intro x; rfl) (fun K c3 A => ∃ (a9 : List Brk) (bo : List Int) (ml : List (Int × Brk)) (ah : Value) (al : Value), (A.heap[b1]? = some (.cells [(S file)].toArray 9 (0, 0))) ∧ (A.heap[b4]? = some (.cells [(.pointer none)].toArray 27 (0, 0))) ∧ (A.heap[b7]? = some (.cells [.nilIface].toArray 39 (0, 0))) ∧ (A.heap[bn]? = some (gmObj .i32 vBrk ml)) ∧ (A.heap[bc]? = some (.cells [(.map (some bn)), (.map none)].toArray 69 (0, 0))) ∧ (A.heap[dm]? = some (.cells [(pt bc 0)].toArray 27 (0, 0))) ∧ (A.heap[de]? = some (.cells [ah].toArray 22 (0, 0))) ∧ (A.heap[db]? = some (.cells [al].toArray 79 (0, 0))) ∧ (A.heap[bw]? = some (.cells [(S text)].toArray 9 (0, 0))) ∧ (Row A w.heap.size 26 3 encBrk ah a9) ∧ (∀ g, Value.ownBlock ah = some g → ¬ Iv aj.heap.size K g) ∧ (Row A w.heap.size 3 1 encInt al bo) ∧ (∀ g, Value.ownBlock al = some g → ¬ Iv aj.heap.size K g) ∧ (Below w.heap.size w A) ∧ (ParI c3 a9 bo) ∧ (ml = kv a9) ∧ (a9.length ≤ c3.length) ∧ (bo.length = a9.length)) (fun K c c3 A => False) ?_ ?_ ?_ ?_ ?_ ?_
 ·intro A hA
  exact ⟨[], [], [], (.slice none 0 0), (.slice none 0 0), zC p hA, zC m hA, zC n hA, zC j hA, zC b hA, zC q hA, zC o hA, zC r hA, zC f hA, Row.nil _ _ _ _ _, nr_nil _ _, Row.nil _ _ _ _ _, nr_nil _ _, hb.trans (hA.mono hb.size), by exact ParI.nil, by rfl, by exact Nat.le_refl _, by rfl⟩
 ·rintro K c3 A B ⟨a9, bo, ml, ah, al, p, m, n, j, b, q, o, r, f, a, z, i, y, hb, p1, p2, p3, p4⟩ hc
  exact ⟨a9, bo, ml, ah, al, zZ p hc (fun h => Nat.not_lt.2 h.1 b3), zZ m hc (fun h => Nat.not_lt.2 h.1 b9), zZ n hc (fun h => Nat.not_lt.2 h.1 b5), zZ j hc (fun h => Nat.not_lt.2 h.1 bb), zZ b hc (fun h => Nat.not_lt.2 h.1 br), zZ q hc (fun h => Nat.not_lt.2 h.1 b6), zZ o hc (fun h => Nat.not_lt.2 h.1 b0), zZ r hc (fun h => Nat.not_lt.2 h.1 ca), zZ f hc (fun h => Nat.not_lt.2 h.1 a7), a.ch hc z, z, i.ch hc y, y, hc.below hb hb.size (fun k h => Nat.le_trans cz h.1), p1, p2, p3, p4⟩
 ·intro K c _ A B h hc; exact h.elim
 ·intro l K c3 x A hi hN ez hK b8
  obtain ⟨a9, bo, ml, ah, al, p, m, n, j, b, q, o, r, f, a, z, i, y, hb, p1, p2, p3, p4⟩ := hi
  have hk := Kp.refl (aj.heap.size) K A
  have dl : ¬ Iv (aj.heap.size) K b1 := fun h => Nat.not_lt.2 h.1 b3
  have dg : ¬ Iv (aj.heap.size) K b4 := fun h => Nat.not_lt.2 h.1 b9
  have dj : ¬ Iv (aj.heap.size) K b7 := fun h => Nat.not_lt.2 h.1 b5
  have co : ¬ Iv (aj.heap.size) K bn := fun h => Nat.not_lt.2 h.1 bb
  have dc : ¬ Iv (aj.heap.size) K bc := fun h => Nat.not_lt.2 h.1 br
  have dn : ¬ Iv (aj.heap.size) K dm := fun h => Nat.not_lt.2 h.1 b6
  have cw : ¬ Iv (aj.heap.size) K de := fun h => Nat.not_lt.2 h.1 b0
  have c0 : ¬ Iv (aj.heap.size) K db := fun h => Nat.not_lt.2 h.1 ca
  have cu : ¬ Iv (aj.heap.size) K bw := fun h => Nat.not_lt.2 h.1 a7
  have f := hN
  have ff := told_short (pre_mem b8)
  have ec := b8.length_le; rw [List.length_append, List.length_singleton] at ec
  have fc := told_len text
  have er := scan_flen x.1 x.2
  have eg := scan_parts (no := x.1) (s := x.2) 1073741824 zo
  refine wR (zN [(I6 0)] 3 ?_)
  intro dx ex ak
  have bk := yZ (yC j) ak
  have cf := NE.symm bk
  have d1 := ak.ge hb.size
  have cv : ¬ Iv aj.heap.size K dx := fun h => by have := h.2; have := ak.num; omega
  have am := i.new_ne ak
  replace hk := hk.ch (Ch.of_below ak.below) hK (fun _ h => h.elim)
  replace hK := Nat.le_trans hK (ak.below.size)
  have u := ak.here
  refine z1 0 (I6 x.1) [(I6 x.1)] u ?_
  intro e0 au
  replace hk := hk.ch (Ch.of_wrote au) hK (fun k e h => cv (e ▸ h))
  replace hK := Nat.le_trans hK (Nat.le_of_eq au.size.symm)
  have p := zC p ak.below
  have p := zG p au (zQ p u zi)
  have m := zC m ak.below
  have m := zG m au (zQ m u zi)
  have n := zC n ak.below
  have n := zG n au (zQ n u zi)
  have b := zC b ak.below
  have b := zG b au (zQ b u zi)
  have q := zC q ak.below
  have q := zG q au (zQ q u zi)
  have o := zC o ak.below
  have o := zG o au (zQ o u zi)
  have r := zC r ak.below
  have r := zG r au (zQ r u zi)
  have f := zC f ak.below
  have f := zG f au (zQ f u zi)
  have a := a.below ak.below
  have a := a.wrote au (a.ne u zi)
  have u := au.here
  refine nQ (zV (zI (zS (zD ⟨hk, ?_⟩))))
  intro ea a0
  have hb := (hb.tr ak.below).trans (au.below d1)
  have hb := a0.below hb hb.size (fun k h => Nat.le_trans cz h.1)
  replace hK := Nat.le_trans hK a0.size
  replace hk := Kp.refl (aj.heap.size) K ea
  have u := zZ u a0 cv
  refine zY (wR (zr (.func (.func 38) #[] #[(pt b1 0), (pt dx 0)]) (zI (nR (zO 0 u rfl (zH (zc (c_lines_Scan x.1 x.2 _ (by first | omega | assumption)) ?_)))))))
  rintro _ en ⟨dd, rfl, an, aq⟩
  have dq := nr_row (K0 := aj.heap.size) an hK
  have p := zZ p a0 dl
  have ct := Row.nb_call an p
  have f := zZ f a0 cu
  have cp := Row.nb_call an f
  have an := an.base hb.size
  replace hk := hk.ch (Ch.of_below aq) hK (fun _ h => h.elim)
  replace hK := Nat.le_trans hK (aq.size)
  have := scan_err x.1 x.2
  refine zH (zr (Value.agg #[(I6 ((scanF x.1 x.2).1.1)), (U8 ((scanF x.1 x.2).1.2.1)), (S ((scanF x.1 x.2).1.2.2.1)), dd, (S ((scanF x.1 x.2).1.2.2.2.2))]) (zr (I6 ((scanF x.1 x.2).2)) (zN [(I6 0), (U8 0), (S []), (.slice none 0 0), (S [])] 90 ?_)))
  intro du ep ad
  have j := zC (zZ (zG (zC j ak.below) au bk) a0 co) aq
  have bd := yZ (yC j) ad
  have hb := hb.tr aq
  have c2 := ad.ge hb.size
  have c9 : ¬ Iv aj.heap.size K du := fun h => by have := h.2; have := ad.num; omega
  replace hk := hk.ch (Ch.of_below ad.below) hK (fun _ h => h.elim)
  replace hK := Nat.le_trans hK (ad.below.size)
  have ae := ad.here
  have an := an.below ad.below
  refine wL du 0 [(I6 ((scanF x.1 x.2).1.1)), (U8 ((scanF x.1 x.2).1.2.1)), (S ((scanF x.1 x.2).1.2.2.1)), dd, (S ((scanF x.1 x.2).1.2.2.2.2))] [(I6 0), (U8 0), (S []), (.slice none 0 0), (S [])] [(I6 ((scanF x.1 x.2).1.1)), (U8 ((scanF x.1 x.2).1.2.1)), (S ((scanF x.1 x.2).1.2.2.1)), dd, (S ((scanF x.1 x.2).1.2.2.2.2))] 90 zk zk (xP rfl (xP rfl (xP rfl (xP an.one (xP rfl rfl))))) zk ae zk rfl ?_
  intro e1 ag
  replace hk := hk.ch (Ch.of_wrote ag) hK (fun k e h => c9 (e ▸ h))
  replace hK := Nat.le_trans hK (Nat.le_of_eq ag.size.symm)
  have p := zC (zC p aq) ad.below
  have p := zG p ag (zQ p ae zi)
  have m := zC (zC (zZ m a0 dg) aq) ad.below
  have m := zG m ag (zQ m ae zi)
  have n := zC (zC (zZ n a0 dj) aq) ad.below
  have n := zG n ag (zQ n ae zi)
  have b := zC (zC (zZ b a0 dc) aq) ad.below
  have b := zG b ag (zQ b ae zi)
  have q := zC (zC (zZ q a0 dn) aq) ad.below
  have q := zG q ag (zQ q ae zi)
  have o := zC (zC (zZ o a0 cw) aq) ad.below
  have o := zG o ag (zQ o ae zi)
  have r := zC (zC (zZ r a0 c0) aq) ad.below
  have r := zG r ag (zQ r ae zi)
  have f := zC (zC f aq) ad.below
  have f := zG f ag (zQ f ae zi)
  have u := zC (zC u aq) ad.below
  have u := zG u ag (zQ u ae zi)
  have a := ((a.ch a0 z).below aq).below ad.below
  have a := a.wrote ag (a.ne ae zi)
  have i := ((((i.below ak.below).wrote au am).ch a0 y).below aq).below ad.below
  have i := i.wrote ag (i.ne ae zi)
  have an := an.wrote ag (an.ne ae zi)
  have ae := ag.here
  refine zI (nW (wR (zH (zNe .i64 ((scanF x.1 x.2).2) 0 ?_ ?_))))
  ·intro dw
   exfalso; (rw [par_scan p1 b8 dw] at hok; exact dw hok)
  intro fj
  refine nQ (zF (zP (zD (wR (zOW ae ?_)))))
  by_cases df : (readB ((scanF x.1 x.2).1.2.1) ((scanF x.1 x.2).1.2.2.2.1)).2.2 = 0
  ·skip
   refine zc (c_read_ok ((scanF x.1 x.2).1.1) ((scanF x.1 x.2).1.2.1) ((scanF x.1 x.2).1.2.2.1) dd ((scanF x.1 x.2).1.2.2.2.1) ((scanF x.1 x.2).1.2.2.2.2) _ an.rd (by exact eg.1) zo (by first | omega | assumption)) ?_
   rintro _ fk ⟨rfl, ab⟩
   replace hk := hk.ch (Ch.of_below ab) hK (fun _ h => h.elim)
   replace hK := Nat.le_trans hK (ab.size)
   refine zH (zr (Value.agg #[(I3 ((readB ((scanF x.1 x.2).1.2.1) ((scanF x.1 x.2).1.2.2.2.1)).1.1)), (I3 ((readB ((scanF x.1 x.2).1.2.1) ((scanF x.1 x.2).1.2.2.2.1)).1.2.1)), (U8 ((readB ((scanF x.1 x.2).1.2.1) ((scanF x.1 x.2).1.2.2.2.1)).1.2.2))]) (zr (.bool ((readB ((scanF x.1 x.2).1.2.1) ((scanF x.1 x.2).1.2.2.2.1)).2.1)) (yK ((readB ((scanF x.1 x.2).1.2.1) ((scanF x.1 x.2).1.2.2.2.1)).2.1) ?_ ?_)))
   ·intro ek
    refine zr .nilIface (zN [(I3 0), (I3 0), (U8 0)] 26 ?_)
    intro ee eo af
    have j := zC (zG (zC j ad.below) ag bd) ab
    have ay := yZ (yC j) af
    have bz := NE.symm ay
    have hb := ((hb.tr ad.below).trans (ag.below c2)).tr ab
    have cn := af.ge hb.size
    have bt : ¬ Iv aj.heap.size K ee := fun h => by have := h.2; have := af.num; omega
    have a := a.below ab
    have aa := a.new_ne af
    replace hk := hk.ch (Ch.of_below af.below) hK (fun _ h => h.elim)
    replace hK := Nat.le_trans hK (af.below.size)
    have t := af.here
    refine zAW [(I3 ((readB ((scanF x.1 x.2).1.2.1) ((scanF x.1 x.2).1.2.2.2.1)).1.1)), (I3 ((readB ((scanF x.1 x.2).1.2.1) ((scanF x.1 x.2).1.2.2.2.1)).1.2.1)), (U8 ((readB ((scanF x.1 x.2).1.2.1) ((scanF x.1 x.2).1.2.2.2.1)).1.2.2))] t ?_
    intro ev ao
    replace hk := hk.ch (Ch.of_wrote ao) hK (fun k e h => bt (e ▸ h))
    replace hK := Nat.le_trans hK (Nat.le_of_eq ao.size.symm)
    have p := zC (zC p ab) af.below
    have p := zG p ao (zQ p t zi)
    have m := zC (zC m ab) af.below
    have m := zG m ao (zQ m t zi)
    have n := zC (zC n ab) af.below
    have n := zG n ao (zQ n t zi)
    have b := zC (zC b ab) af.below
    have b := zG b ao (zQ b t zi)
    have q := zC (zC q ab) af.below
    have q := zG q ao (zQ q t zi)
    have o := zC (zC o ab) af.below
    have o := zG o ao (zQ o t zi)
    have r := zC (zC r ab) af.below
    have r := zG r ao (zQ r t zi)
    have f := zC (zC f ab) af.below
    have f := zG f ao (zQ f t zi)
    have u := zC (zC u ab) af.below
    have u := zG u ao (zQ u t zi)
    have i := (i.below ab).below af.below
    have i := i.wrote ao (i.ne t zi)
    have t := ao.here
    have hb := (hb.tr af.below).trans (ao.below cn)
    have j := zG (zC j af.below) ao ay
    refine zI (zI (nW (wR (zH (zr (.bool false) (nQ (zF (zP (zD (yA (wR (zH (znt true (nQ (zF (zP (zD (yA (wR (zO 0 q rfl (zOW t (zc (c_add bc bn ml (.map none) ((readB ((scanF x.1 x.2).1.2.1) ((scanF x.1 x.2).1.2.2.2.1)).1.1) ((readB ((scanF x.1 x.2).1.2.1) ((scanF x.1 x.2).1.2.2.2.1)).1.2.1) ((readB ((scanF x.1 x.2).1.2.1) ((scanF x.1 x.2).1.2.2.2.1)).1.2.2) w.heap.size _ hb.size b j cc) ?_))))))))))))))))))))))
    rintro _ et ⟨rfl, d3, ar⟩
    replace hk := hk.ch ar hK (fun k e h => co (e ▸ h))
    replace hK := Nat.le_trans hK ar.size
    have hb := ar.below hb hb.size (fun k e => e ▸ cc)
    have a := (a.below af.below).wrote ao aa
    have a := a.ch ar (fun g e d => (a.ne j (by simp [gmObj])) (d ▸ e))
    have i := i.ch ar (fun g e d => (i.ne j (by simp [gmObj])) (d ▸ e))
    have j := d3
    refine zI (nR (zH (zNe .i64 (addE ml (((readB ((scanF x.1 x.2).1.2.1) ((scanF x.1 x.2).1.2.2.2.1)).1.1), ((readB ((scanF x.1 x.2).1.2.1) ((scanF x.1 x.2).1.2.2.2.1)).1.2.1), ((readB ((scanF x.1 x.2).1.2.1) ((scanF x.1 x.2).1.2.2.2.1)).1.2.2))) 0 ?_ ?_)))
    ·intro d2
     exfalso; (rw [par_add2 p1 b8 p2 za za za d2] at hok; exact d2 hok)
    intro ej
    have t := zZ t ar (fun e => bz e)
    have o := zZ o ar (fun e => cg e)
    refine nQ (zF (zP (zD (wR (zO 0 o rfl (zOW t (wO el22 w.heap.size ah a9 ((readB ((scanF x.1 x.2).1.2.1) ((scanF x.1 x.2).1.2.2.2.1)).1.1, (readB ((scanF x.1 x.2).1.2.1) ((scanF x.1 x.2).1.2.2.2.1)).1.2.1, (readB ((scanF x.1 x.2).1.2.1) ((scanF x.1 x.2).1.2.2.2.1)).1.2.2) hb.size a zo zk rfl rfl zk rfl zk zk ?_)))))))
    intro dp es dt aw cy
    have c5 := nr_app cy z hK
    have cr := wH cy aa (yC t)
    have hb := hb.tg hb.size aw a
    replace hk := hk.ch (Ch.of_grown aw) hK (fun k e => z k e)
    replace hK := Nat.le_trans hK (aw.size)
    have p := zZ p ar (fun e => cm e)
    have p := yB p aw (a.ne p zi)
    have m := zZ m ar (fun e => bm e)
    have m := yB m aw (a.ne m zi)
    have n := zZ n ar (fun e => bi e)
    have n := yB n aw (a.ne n zi)
    have j := yB j aw (a.ne j (by simp [gmObj]))
    have b := zZ b ar (fun e => b2 e)
    have b := yB b aw (a.ne b zi)
    have q := zZ q ar (fun e => cl e)
    have q := yB q aw (a.ne q zi)
    have o := yB o aw (a.ne o zi)
    have r := zZ r ar (fun e => ci e)
    have r := yB r aw (a.ne r zi)
    have f := zZ f ar (fun e => bu e)
    have f := yB f aw (a.ne f zi)
    have u := zZ u ar (fun e => cf e)
    have u := yB u aw (a.ne u zi)
    have i := i.grown aw (i.apart a zk)
    have aa := cr
    have a := dt
    have z := c5; clear c5
    refine wF de 0 dp [ah] [dp] 22 zk zk a.one zk o zi rfl ?_
    intro el av
    replace hk := hk.ch (Ch.of_wrote av) hK (fun k e h => cw (e ▸ h))
    replace hK := Nat.le_trans hK (Nat.le_of_eq av.size.symm)
    have p := zG p av (zQ p o zi)
    have m := zG m av (zQ m o zi)
    have n := zG n av (zQ n o zi)
    have b := zG b av (zQ b o zi)
    have q := zG q av (zQ q o zi)
    have r := zG r av (zQ r o zi)
    have f := zG f av (zQ f o zi)
    have u := zG u av (zQ u o zi)
    have a := a.wrote av (a.ne o zi)
    have i := i.wrote av (i.ne o zi)
    have o := av.here
    have hb := hb.trans (av.below dv)
    refine nQ (zV (zO 0 r rfl (zO 0 u rfl (wO el79 w.heap.size al bo x.1 hb.size i zo zk rfl rfl zk rfl zk zk ?_))))
    intro dk fg dz a1 c4
    have c5 := nr_app c4 y hK
    have cx := wH c4 am (yC u)
    have hb := hb.tg hb.size a1 i
    replace hk := hk.ch (Ch.of_grown a1) hK (fun k e => y k e)
    replace hK := Nat.le_trans hK (a1.size)
    have p := yB p a1 (i.ne p zi)
    have m := yB m a1 (i.ne m zi)
    have n := yB n a1 (i.ne n zi)
    have j := zG j av bg
    have j := yB j a1 (i.ne j (by simp [gmObj]))
    have b := yB b a1 (i.ne b zi)
    have q := yB q a1 (i.ne q zi)
    have o := yB o a1 (i.ne o zi)
    have r := yB r a1 (i.ne r zi)
    have f := yB f a1 (i.ne f zi)
    have a := a.grown a1 (a.apart i zk)
    have am := cx
    have i := dz
    have y := c5; clear c5
    refine wF db 0 dk [al] [dk] 79 zk zk i.one zk r zi rfl ?_
    intro e9 az
    replace hk := hk.ch (Ch.of_wrote az) hK (fun k e h => c0 (e ▸ h))
    replace hK := Nat.le_trans hK (Nat.le_of_eq az.size.symm)
    have p := zG p az (zQ p r zi)
    have m := zG m az (zQ m r zi)
    have n := zG n az (zQ n r zi)
    have b := zG b az (zQ b r zi)
    have q := zG q az (zQ q r zi)
    have o := zG o az (zQ o r zi)
    have f := zG f az (zQ f r zi)
    have a := a.wrote az (a.ne r zi)
    have i := i.wrote az (i.ne r zi)
    have r := az.here
    refine zS (zJ ?_)
    have hb := hb.trans (az.below dr)
    have j := zG j az bl
    refine xY hk f ⟨(a9 ++ [((readB ((scanF x.1 x.2).1.2.1) ((scanF x.1 x.2).1.2.2.2.1)).1.1, (readB ((scanF x.1 x.2).1.2.1) ((scanF x.1 x.2).1.2.2.2.1)).1.2.1, (readB ((scanF x.1 x.2).1.2.1) ((scanF x.1 x.2).1.2.2.2.1)).1.2.2)]), (bo ++ [x.1]), (addM ml (((readB ((scanF x.1 x.2).1.2.1) ((scanF x.1 x.2).1.2.2.2.1)).1.1), ((readB ((scanF x.1 x.2).1.2.1) ((scanF x.1 x.2).1.2.2.2.1)).1.2.1), ((readB ((scanF x.1 x.2).1.2.1) ((scanF x.1 x.2).1.2.2.2.1)).1.2.2))), dp, dk, p, m, n, j, b, q, o, r, f, a, z, i, y, hb, ?_, ?_, ?_, ?_⟩
    ·exact ParI.add p1 za za za (add_kv p2 za)
    ·exact addM_kv p2 za
    ·(simp only [List.length_append, List.length_cons, List.length_nil]; omega)
    (simp only [List.length_append, List.length_cons, List.length_nil]; omega)
   intro fl
   refine zr .nilIface (zN [(I3 0), (I3 0), (U8 0)] 26 ?_)
   intro ed e2 ai
   have j := zC (zG (zC j ad.below) ag bd) ab
   have ay := yZ (yC j) ai
   have hb := ((hb.tr ad.below).trans (ag.below c2)).tr ab
   have cn := ai.ge hb.size
   have bt : ¬ Iv aj.heap.size K ed := fun h => by have := h.2; have := ai.num; omega
   have a := a.below ab
   have aa := a.new_ne ai
   replace hk := hk.ch (Ch.of_below ai.below) hK (fun _ h => h.elim)
   replace hK := Nat.le_trans hK (ai.below.size)
   have t := ai.here
   refine zAW [(I3 ((readB ((scanF x.1 x.2).1.2.1) ((scanF x.1 x.2).1.2.2.2.1)).1.1)), (I3 ((readB ((scanF x.1 x.2).1.2.1) ((scanF x.1 x.2).1.2.2.2.1)).1.2.1)), (U8 ((readB ((scanF x.1 x.2).1.2.1) ((scanF x.1 x.2).1.2.2.2.1)).1.2.2))] t ?_
   intro eu ax
   replace hk := hk.ch (Ch.of_wrote ax) hK (fun k e h => bt (e ▸ h))
   replace hK := Nat.le_trans hK (Nat.le_of_eq ax.size.symm)
   have p := zC (zC p ab) ai.below
   have p := zG p ax (zQ p t zi)
   have m := zC (zC m ab) ai.below
   have m := zG m ax (zQ m t zi)
   have n := zC (zC n ab) ai.below
   have n := zG n ax (zQ n t zi)
   have b := zC (zC b ab) ai.below
   have b := zG b ax (zQ b t zi)
   have q := zC (zC q ab) ai.below
   have q := zG q ax (zQ q t zi)
   have o := zC (zC o ab) ai.below
   have o := zG o ax (zQ o t zi)
   have r := zC (zC r ab) ai.below
   have r := zG r ax (zQ r t zi)
   have f := zC (zC f ab) ai.below
   have f := zG f ax (zQ f t zi)
   have i := (i.below ab).below ai.below
   have i := i.wrote ax (i.ne t zi)
   refine zI (zI (nW (wR (zH (zr (.bool false) (nQ (zF (zP (zD (yA (wR (zH (znt false (nQ (zT (yR (zL (yD ?_))))))))))))))))))
   have hb := (hb.tr ai.below).trans (ax.below cn)
   have j := zG (zC j ai.below) ax ay
   have a := (a.below ai.below).wrote ax aa
   refine xY hk f ⟨a9, bo, ml, ah, al, p, m, n, j, b, q, o, r, f, a, z, i, y, hb, ?_, ?_, ?_, ?_⟩
   ·exact ParI.skip p1 za za za
   ·exact p2
   ·(simp only [List.length_append, List.length_cons, List.length_nil]; omega)
   exact p4
  skip
  exfalso; rw [par_read p1 b8 za df] at hok; exact df hok
 ·intro K A hi e5 a2
  obtain ⟨a9, bo, ml, ah, al, p, m, n, j, b, q, o, r, f, a, z, i, y, hb, p1, p2, p3, p4⟩ := hi
  have cj : NE bn (aj.heap.size) := Nat.ne_of_lt bb
  refine zJ (zD (yA (wR (zO 0 o rfl (zO 0 q rfl (zr (.func (.func 30) #[(pt bc 0)] #[]) (zc (c_idx ah a9 bc bn ml (.map none) [] _ a.rd b (GmAt.of j) (.inl ⟨rfl, rfl⟩) (by (have := told_len text; omega))) ?_)))))))
  rintro _ e6 ⟨rfl, bf⟩
  refine zI (nR (zH (zGe .i64 (idxL ml a9) 0 ?_ ?_)))
  ·intro d9
   exfalso; (rw [par_lone2 p1 p2 d9] at hok; cases hok)
  intro fh
  have m := zC m bf
  have q := zC q bf
  refine nQ (zF (zP (zD (wR (zO 0 q rfl (z1 0 (pt bc 0) [(pt bc 0)] m ?_))))))
  intro e3 bp
  have n := zC n bf
  have n := zG n bp (zQ n m zi)
  have b := zC b bf
  have b := zG b bp (zQ b m zi)
  have a2 := zC a2 bf
  have a2 := zG a2 bp (zQ a2 m zi)
  have m := bp.here
  refine z1 0 .nilIface [.nilIface] n ?_
  intro ew bq
  have m := zG m bq (zQ m n zi)
  have b := zG b bq (zQ b n zi)
  have a2 := zG a2 bq (zQ a2 n zi)
  have n := bq.here
  refine nQ (zW (end_retM (ds := [⟨.collected aj.heap.size, #[]⟩]) zk (Lv_mark a2 ?_)))
  intro e8 bx
  have m := zG m bx (zQ m a2 zi)
  have n := zG n bx (zQ n a2 zi)
  have b := zG b bx (zQ b a2 zi)
  refine Lv_nil [.cell 4 27, .cell 5 39] [(pt bc 0), .nilIface] rfl ⟨⟨⟨b4, 0, none⟩, zk, load_one zk (yO m rfl)⟩, ⟨⟨b7, 0, none⟩, zk, load_one zk (yO n rfl)⟩, trivial⟩ ?_
  have em : ml = (kv (parF text).1.1) := by (rw [par_ok2 p1 p2 za]; exact p2)
  have j := zG (zG (zG (zC j bf) bp cd) bq ce) bx cj
  rw [em] at j
  have hb := (((hb.tr bf).trans (bp.below dy)).trans (bq.below d0)).trans (bx.below cz)
  exact ⟨bc, bn, rfl, b, dh, j, cc, hb⟩
 intro K c _ x A _ h; exact h.elim
theorem c_Parse_bad (file : List UInt8) (text : List UInt8) (w : World) (hty : w.cell? ⟨0, 0, none⟩ = some (.iface 180 (.agg #[.pointer (some ⟨7, 39, none⟩)]))) (hs : text.length ≤ 67108864) (hbad : (parF text).2.2 ≠ 0) :
  Calls Tryz.prog 15 #[(S file), (S text)] w (Ret fun v w' => ∃ (cb0 : Nat), v = (.tuple #[(.pointer none), (.iface 83 (pt cb0 0))]) ∧ w'.heap[cb0]? = some (.cells [(S file), (I6 ((parF text).2.1)), (I6 ((parF text).2.2))].toArray 85 (0, 0)) ∧ w.heap.size ≤ cb0 ∧ Below w.heap.size w w') := by
 refine enterM (args := [(S file), (S text)]) func15 rfl (zk : _ = 83) zk ?_
 have y := Below.refl w.heap.size w
 refine wR (zN [(S file)] 9 ?_)
 intro b1 w2 ez
 have f2 := ez.ge y.size
 have i := ez.here
 refine zN [(.pointer none)] 27 ?_
 intro b4 w5 eu
 have y := y.tr ez.below
 have di := eu.ge y.size
 have b := eu.here
 refine zN [.nilIface] 39 ?_
 intro b7 w8 ed
 have y := y.tr eu.below
 have dj := ed.ge y.size
 have f := ed.here
 refine nR (L_gmk (T := 66) .i32 vBrk ?_)
 intro da hr bz
 have i := zC (zC i eu.below) ed.below
 have ct := yZ (yC i) bz
 have b := zC b ed.below
 have cw := yZ (yC b) bz
 have cd := yZ (yC f) bz
 have y := y.tr ed.below
 have d3 := bz.ge y.size
 have q := bz.here
 refine zr (Value.agg #[(.map (some da)), (.map none)]) (zN [(.map (some da)), (.map none)] 69 ?_)
 intro cu hf b9
 have dm := yZ (yC q) b9
 have b8 := NE.symm dm
 have y := y.tr bz.below
 have fq := b9.ge y.size
 have m := b9.here
 refine zN [(.pointer none)] 27 ?_
 intro ex hn bv
 have b := zC (zC b bz.below) b9.below
 have c3 := yZ (yC b) bv
 have b5 := NE.symm c3
 have q := zC q b9.below
 have cc := yZ (yC q) bv
 have cr := NE.symm cc
 have y := y.tr b9.below
 have fk := bv.ge y.size
 have p := bv.here
 refine z1 0 (pt cu 0) [(pt cu 0)] p ?_
 intro ha cm
 have i := zC (zC (zC i bz.below) b9.below) bv.below
 have i := zG i cm (zQ i p zi)
 have f := zC (zC (zC f bz.below) b9.below) bv.below
 have f := zG f cm (zQ f p zi)
 have m := zC m bv.below
 have m := zG m cm (zQ m p zi)
 have p := cm.here
 refine nR (zN [(.slice none 0 0)] 22 ?_)
 intro ew hm bu
 have q := zG (zC q bv.below) cm cc
 have cb := yZ (yC q) bu
 have dr := NE.symm cb
 have y := (y.tr bv.below).trans (cm.below fk)
 have e9 := bu.ge y.size
 have r := bu.here
 refine nR (zN [(.slice none 0 0)] 79 ?_)
 intro dx hg bm
 have q := zC q bu.below
 have cs := yZ (yC q) bm
 have dt := NE.symm cs
 have y := y.tr bu.below
 have e6 := bm.ge y.size
 have o := bm.here
 refine nW (wR (zH (zc (c_lines_Each text _ ) ?_)))
 rintro _ ai ⟨cy, rfl, a, df, b2⟩
 have q := zC q bm.below
 have c5 := NE_ge (yC q) df
 have b0 := NE.symm c5
 have y := y.tr bm.below
 replace df := Nat.le_trans y.size df
 refine nQ (zY ?_)
 have i := zC (zC (zC i bu.below) bm.below) b2
 have cg : b1 < ai.heap.size := yC i
 have b := zC (zC (zC (zG (zC b bv.below) cm c3) bu.below) bm.below) b2
 have cv : b4 < ai.heap.size := yC b
 have f := zC (zC (zC f bu.below) bm.below) b2
 have ci : b7 < ai.heap.size := yC f
 have q := zC q b2
 have c2 : da < ai.heap.size := yC q
 have m := zC (zC (zC m bu.below) bm.below) b2
 have b3 : cu < ai.heap.size := yC m
 have p := zC (zC (zC p bu.below) bm.below) b2
 have cj : ex < ai.heap.size := yC p
 have r := zC (zC r bm.below) b2
 have dh : ew < ai.heap.size := yC r
 have o := zC o b2
 have dl : dx < ai.heap.size := yC o
 have bh : cy < ai.heap.size := yC a
 have y := y.tr b2
 have c1 := y.size
 have f3 := y
 refine W_range 66 [(pt cy 0)] (toldF text) zk (fun _ _ => rfl) (it_lines_Each_1 cy text (by first | omega | assumption)) a ((fun D A B h hc hd => zZ h hc (fun h => Nat.not_lt.2 (hd _ h) bh))) (by intro x; rfl) (fun K c9 A => ∃ (bc : List Brk) (ca : List Int) (ml : List (Int × Brk)) (ao : Value) (af : Value), (A.heap[b1]? = some (.cells [(S file)].toArray 9 (0, 0))) ∧ (A.heap[b4]? = some (.cells [(.pointer none)].toArray 27 (0, 0))) ∧ (A.heap[b7]? = some (.cells [.nilIface].toArray 39 (0, 0))) ∧ (A.heap[da]? = some (gmObj .i32 vBrk ml)) ∧ (A.heap[cu]? = some (.cells [(.map (some da)), (.map none)].toArray 69 (0, 0))) ∧ (A.heap[ex]? = some (.cells [(pt cu 0)].toArray 27 (0, 0))) ∧ (A.heap[ew]? = some (.cells [ao].toArray 22 (0, 0))) ∧ (A.heap[dx]? = some (.cells [af].toArray 79 (0, 0))) ∧ (A.heap[cy]? = some (.cells [(S text)].toArray 9 (0, 0))) ∧ (Row A w.heap.size 26 3 encBrk ao bc) ∧ (∀ g, Value.ownBlock ao = some g → ¬ Iv ai.heap.size K g) ∧ (Row A w.heap.size 3 1 encInt af ca) ∧ (∀ g, Value.ownBlock af = some g → ¬ Iv ai.heap.size K g) ∧ (Below w.heap.size w A) ∧ (ParI c9 bc ca) ∧ (ml = kv bc) ∧ (bc.length ≤ c9.length) ∧ (ca.length = bc.length)) (fun K c c9 A => (∃ (bq : Nat) (no : Int) (e : Int), (c = .ret) ∧ (A.heap[b1]? = some (.cells [(S file)].toArray 9 (0, 0))) ∧ (A.heap[b4]? = some (.cells [(.pointer none)].toArray 27 (0, 0))) ∧ (A.heap[b7]? = some (.cells [(.iface 83 (pt bq 0))].toArray 39 (0, 0))) ∧ (A.heap[cu]? = some (.cells [(.map (some da)), (.map none)].toArray 69 (0, 0))) ∧ (A.heap[ex]? = some (.cells [(pt cu 0)].toArray 27 (0, 0))) ∧ (A.heap[cy]? = some (.cells [(S text)].toArray 9 (0, 0))) ∧ (A.heap[bq]? = some (.cells [(S file), (I6 no), (I6 e)].toArray 85 (0, 0))) ∧ (w.heap.size ≤ bq) ∧ (¬ Iv ai.heap.size K bq) ∧ (Below w.heap.size w A) ∧ ((parF text).2 = (no, e)) ∧ (e ≠ 0))) ?_ ?_ ?_ ?_ ?_ ?_
 ·intro A hA
  exact ⟨[], [], [], (.slice none 0 0), (.slice none 0 0), zC i hA, zC b hA, zC f hA, zC q hA, zC m hA, zC p hA, zC r hA, zC o hA, zC a hA, Row.nil _ _ _ _ _, nr_nil _ _, Row.nil _ _ _ _ _, nr_nil _ _, y.trans (hA.mono y.size), by exact ParI.nil, by rfl, by exact Nat.le_refl _, by rfl⟩
 ·rintro K c9 A B ⟨bc, ca, ml, ao, af, i, b, f, q, m, p, r, o, a, n, ad, j, ac, y, p1, p2, p3, p4⟩ hc
  exact ⟨bc, ca, ml, ao, af, zZ i hc (fun h => Nat.not_lt.2 h.1 cg), zZ b hc (fun h => Nat.not_lt.2 h.1 cv), zZ f hc (fun h => Nat.not_lt.2 h.1 ci), zZ q hc (fun h => Nat.not_lt.2 h.1 c2), zZ m hc (fun h => Nat.not_lt.2 h.1 b3), zZ p hc (fun h => Nat.not_lt.2 h.1 cj), zZ r hc (fun h => Nat.not_lt.2 h.1 dh), zZ o hc (fun h => Nat.not_lt.2 h.1 dl), zZ a hc (fun h => Nat.not_lt.2 h.1 bh), n.ch hc ad, ad, j.ch hc ac, ac, hc.below y y.size (fun k h => Nat.le_trans c1 h.1), p1, p2, p3, p4⟩
 ·rintro K c c9 A B (⟨bq, no, e, fo, i, b, f, m, p, a, c0, ec, dn, y, q1, q2⟩) hc
  exact ⟨bq, no, e, fo, zZ i hc (fun h => Nat.not_lt.2 h.1 cg), zZ b hc (fun h => Nat.not_lt.2 h.1 cv), zZ f hc (fun h => Nat.not_lt.2 h.1 ci), zZ m hc (fun h => Nat.not_lt.2 h.1 b3), zZ p hc (fun h => Nat.not_lt.2 h.1 cj), zZ a hc (fun h => Nat.not_lt.2 h.1 bh), zZ c0 hc dn, ec, dn, hc.below y y.size (fun k h => Nat.le_trans c1 h.1), q1, q2⟩
 ·intro l K c9 x A hi hN g0 hK cl
  obtain ⟨bc, ca, ml, ao, af, i, b, f, q, m, p, r, o, a, n, ad, j, ac, y, p1, p2, p3, p4⟩ := hi
  have hk := Kp.refl (ai.heap.size) K A
  have e0 : ¬ Iv (ai.heap.size) K b1 := fun h => Nat.not_lt.2 h.1 cg
  have c7 : ¬ Iv (ai.heap.size) K b4 := fun h => Nat.not_lt.2 h.1 cv
  have db : ¬ Iv (ai.heap.size) K b7 := fun h => Nat.not_lt.2 h.1 ci
  have dv : ¬ Iv (ai.heap.size) K da := fun h => Nat.not_lt.2 h.1 c2
  have ev : ¬ Iv (ai.heap.size) K cu := fun h => Nat.not_lt.2 h.1 b3
  have e4 : ¬ Iv (ai.heap.size) K ex := fun h => Nat.not_lt.2 h.1 cj
  have d8 : ¬ Iv (ai.heap.size) K ew := fun h => Nat.not_lt.2 h.1 dh
  have eb : ¬ Iv (ai.heap.size) K dx := fun h => Nat.not_lt.2 h.1 dl
  have d5 : ¬ Iv (ai.heap.size) K cy := fun h => Nat.not_lt.2 h.1 bh
  have a := hN
  have hp := told_short (pre_mem cl)
  have fu := cl.length_le; rw [List.length_append, List.length_singleton] at fu
  have hh := told_len text
  have gq := scan_flen x.1 x.2
  have fj := scan_parts (no := x.1) (s := x.2) 1073741824 zo
  refine wR (zN [(I6 0)] 3 ?_)
  intro ef gw ar
  have cq := yZ (yC q) ar
  have ce := NE.symm cq
  have fh := ar.ge y.size
  have d7 : ¬ Iv ai.heap.size K ef := fun h => by have := h.2; have := ar.num; omega
  have av := j.new_ne ar
  replace hk := hk.ch (Ch.of_below ar.below) hK (fun _ h => h.elim)
  replace hK := Nat.le_trans hK (ar.below.size)
  have u := ar.here
  refine z1 0 (I6 x.1) [(I6 x.1)] u ?_
  intro g4 a2
  replace hk := hk.ch (Ch.of_wrote a2) hK (fun k e h => d7 (e ▸ h))
  replace hK := Nat.le_trans hK (Nat.le_of_eq a2.size.symm)
  have i := zC i ar.below
  have i := zG i a2 (zQ i u zi)
  have b := zC b ar.below
  have b := zG b a2 (zQ b u zi)
  have f := zC f ar.below
  have f := zG f a2 (zQ f u zi)
  have m := zC m ar.below
  have m := zG m a2 (zQ m u zi)
  have p := zC p ar.below
  have p := zG p a2 (zQ p u zi)
  have r := zC r ar.below
  have r := zG r a2 (zQ r u zi)
  have o := zC o ar.below
  have o := zG o a2 (zQ o u zi)
  have a := zC a ar.below
  have a := zG a a2 (zQ a u zi)
  have n := n.below ar.below
  have n := n.wrote a2 (n.ne u zi)
  have u := a2.here
  refine nQ (zV (zI (zS (zD ⟨hk, ?_⟩))))
  intro fs ba
  have y := (y.tr ar.below).trans (a2.below fh)
  have y := ba.below y y.size (fun k h => Nat.le_trans c1 h.1)
  replace hK := Nat.le_trans hK ba.size
  replace hk := Kp.refl (ai.heap.size) K fs
  have u := zZ u ba d7
  refine zY (wR (zr (.func (.func 38) #[] #[(pt b1 0), (pt ef 0)]) (zI (nR (zO 0 u rfl (zH (zc (c_lines_Scan x.1 x.2 _ (by first | omega | assumption)) ?_)))))))
  rintro _ gm ⟨eh, rfl, au, az⟩
  have e5 := nr_row (K0 := ai.heap.size) au hK
  have i := zZ i ba e0
  have d2 := Row.nb_call au i
  have a := zZ a ba d5
  have dy := Row.nb_call au a
  have au := au.base y.size
  replace hk := hk.ch (Ch.of_below az) hK (fun _ h => h.elim)
  replace hK := Nat.le_trans hK (az.size)
  have := scan_err x.1 x.2
  refine zH (zr (Value.agg #[(I6 ((scanF x.1 x.2).1.1)), (U8 ((scanF x.1 x.2).1.2.1)), (S ((scanF x.1 x.2).1.2.2.1)), eh, (S ((scanF x.1 x.2).1.2.2.2.2))]) (zr (I6 ((scanF x.1 x.2).2)) (zN [(I6 0), (U8 0), (S []), (.slice none 0 0), (S [])] 90 ?_)))
  intro e8 gp ah
  have q := zC (zZ (zG (zC q ar.below) a2 cq) ba dv) az
  have b6 := yZ (yC q) ah
  have y := y.tr az
  have c8 := ah.ge y.size
  have et : ¬ Iv ai.heap.size K e8 := fun h => by have := h.2; have := ah.num; omega
  replace hk := hk.ch (Ch.of_below ah.below) hK (fun _ h => h.elim)
  replace hK := Nat.le_trans hK (ah.below.size)
  have am := ah.here
  have au := au.below ah.below
  refine wL e8 0 [(I6 ((scanF x.1 x.2).1.1)), (U8 ((scanF x.1 x.2).1.2.1)), (S ((scanF x.1 x.2).1.2.2.1)), eh, (S ((scanF x.1 x.2).1.2.2.2.2))] [(I6 0), (U8 0), (S []), (.slice none 0 0), (S [])] [(I6 ((scanF x.1 x.2).1.1)), (U8 ((scanF x.1 x.2).1.2.1)), (S ((scanF x.1 x.2).1.2.2.1)), eh, (S ((scanF x.1 x.2).1.2.2.2.2))] 90 zk zk (xP rfl (xP rfl (xP rfl (xP au.one (xP rfl rfl))))) zk am zk rfl ?_
  intro g5 ak
  replace hk := hk.ch (Ch.of_wrote ak) hK (fun k e h => et (e ▸ h))
  replace hK := Nat.le_trans hK (Nat.le_of_eq ak.size.symm)
  have i := zC (zC i az) ah.below
  have i := zG i ak (zQ i am zi)
  have b := zC (zC (zZ b ba c7) az) ah.below
  have b := zG b ak (zQ b am zi)
  have f := zC (zC (zZ f ba db) az) ah.below
  have f := zG f ak (zQ f am zi)
  have m := zC (zC (zZ m ba ev) az) ah.below
  have m := zG m ak (zQ m am zi)
  have p := zC (zC (zZ p ba e4) az) ah.below
  have p := zG p ak (zQ p am zi)
  have r := zC (zC (zZ r ba d8) az) ah.below
  have r := zG r ak (zQ r am zi)
  have o := zC (zC (zZ o ba eb) az) ah.below
  have o := zG o ak (zQ o am zi)
  have a := zC (zC a az) ah.below
  have a := zG a ak (zQ a am zi)
  have u := zC (zC u az) ah.below
  have u := zG u ak (zQ u am zi)
  have n := ((n.ch ba ad).below az).below ah.below
  have n := n.wrote ak (n.ne am zi)
  have j := ((((j.below ar.below).wrote a2 av).ch ba ac).below az).below ah.below
  have j := j.wrote ak (j.ne am zi)
  have au := au.wrote ak (au.ne am zi)
  have am := ak.here
  refine zI (nW (wR (zH (zNe .i64 ((scanF x.1 x.2).2) 0 ?_ ?_))))
  ·intro g1
   refine nQ (zT (wR (zH (zH (L_inline 38 [(I6 ((scanF x.1 x.2).2)), (pt b1 0), (pt ef 0)] zk zk (wG 11 func38 rfl (wR (zI (nR (zO 0 i rfl (zO 0 u rfl (zH (zr (Value.agg #[(S file), (I6 x.1), (I6 ((scanF x.1 x.2).2))]) (zN [(S file), (I6 x.1), (I6 ((scanF x.1 x.2).2))] 85 ?_))))))))))))))
   intro du g6 bl
   have y := (y.tr ah.below).trans (ak.below c8)
   have ej := bl.ge y.size
   have d0 : ¬ Iv ai.heap.size K du := fun h => by have := h.2; have := bl.num; omega
   replace hk := hk.ch (Ch.of_below bl.below) hK (fun _ h => h.elim)
   replace hK := Nat.le_trans hK (bl.below.size)
   have a4 := bl.here
   refine zr (.iface 83 (pt du 0)) (zI (nQ (zW (yF [(.iface 83 (pt du 0))] ?_))))
   show L _ _ _ _ _ _ (Fm.put _ _ (.iface 83 (pt du 0))) _
   have b := zC b bl.below
   refine z1 0 (.pointer none) [(.pointer none)] b ?_
   intro ht bs
   replace hk := hk.ch (Ch.of_wrote bs) hK (fun k e h => c7 (e ▸ h))
   replace hK := Nat.le_trans hK (Nat.le_of_eq bs.size.symm)
   have i := zC i bl.below
   have i := zG i bs (zQ i b zi)
   have f := zC f bl.below
   have f := zG f bs (zQ f b zi)
   have m := zC m bl.below
   have m := zG m bs (zQ m b zi)
   have a := zC a bl.below
   have a := zG a bs (zQ a b zi)
   have a4 := zG a4 bs (zQ a4 b zi)
   have b := bs.here
   refine z1 0 (.iface 83 (pt du 0)) [(.iface 83 (pt du 0))] f ?_
   intro gl bt
   replace hk := hk.ch (Ch.of_wrote bt) hK (fun k e h => db (e ▸ h))
   replace hK := Nat.le_trans hK (Nat.le_of_eq bt.size.symm)
   have i := zG i bt (zQ i f zi)
   have b := zG b bt (zQ b f zi)
   have m := zG m bt (zQ m f zi)
   have p := zG (zC p bl.below) bs b5
   have p := zG p bt (zQ p f zi)
   have a := zG a bt (zQ a f zi)
   have a4 := zG a4 bt (zQ a4 f zi)
   have f := bt.here
   refine nQ (zW (zK (zR ?_)))
   have y := ((y.tr bl.below).trans (bs.below di)).trans (bt.below dj)
   refine round_ret hk (⟨du, x.1, ((scanF x.1 x.2).2), rfl, i, b, f, m, p, a, a4, ej, d0, y, ?_, ?_⟩)
   ·exact par_scan p1 cl za
   assumption
  intro gu
  refine nQ (zF (zP (zD (wR (zOW am ?_)))))
  by_cases f1 : (readB ((scanF x.1 x.2).1.2.1) ((scanF x.1 x.2).1.2.2.2.1)).2.2 = 0
  ·skip
   refine zc (c_read_ok ((scanF x.1 x.2).1.1) ((scanF x.1 x.2).1.2.1) ((scanF x.1 x.2).1.2.2.1) eh ((scanF x.1 x.2).1.2.2.2.1) ((scanF x.1 x.2).1.2.2.2.2) _ au.rd (by exact fj.1) zo (by first | omega | assumption)) ?_
   rintro _ gs ⟨rfl, ae⟩
   replace hk := hk.ch (Ch.of_below ae) hK (fun _ h => h.elim)
   replace hK := Nat.le_trans hK (ae.size)
   refine zH (zr (Value.agg #[(I3 ((readB ((scanF x.1 x.2).1.2.1) ((scanF x.1 x.2).1.2.2.2.1)).1.1)), (I3 ((readB ((scanF x.1 x.2).1.2.1) ((scanF x.1 x.2).1.2.2.2.1)).1.2.1)), (U8 ((readB ((scanF x.1 x.2).1.2.1) ((scanF x.1 x.2).1.2.2.2.1)).1.2.2))]) (zr (.bool ((readB ((scanF x.1 x.2).1.2.1) ((scanF x.1 x.2).1.2.2.2.1)).2.1)) (yK ((readB ((scanF x.1 x.2).1.2.1) ((scanF x.1 x.2).1.2.2.2.1)).2.1) ?_ ?_)))
   ·intro gr
    refine zr .nilIface (zN [(I3 0), (I3 0), (U8 0)] 26 ?_)
    intro fv he an
    have q := zC (zG (zC q ah.below) ak b6) ae
    have a8 := yZ (yC q) an
    have dg := NE.symm a8
    have y := ((y.tr ah.below).trans (ak.below c8)).tr ae
    have cx := an.ge y.size
    have bx : ¬ Iv ai.heap.size K fv := fun h => by have := h.2; have := an.num; omega
    have n := n.below ae
    have z := n.new_ne an
    replace hk := hk.ch (Ch.of_below an.below) hK (fun _ h => h.elim)
    replace hK := Nat.le_trans hK (an.below.size)
    have t := an.here
    refine zAW [(I3 ((readB ((scanF x.1 x.2).1.2.1) ((scanF x.1 x.2).1.2.2.2.1)).1.1)), (I3 ((readB ((scanF x.1 x.2).1.2.1) ((scanF x.1 x.2).1.2.2.2.1)).1.2.1)), (U8 ((readB ((scanF x.1 x.2).1.2.1) ((scanF x.1 x.2).1.2.2.2.1)).1.2.2))] t ?_
    intro gn ax
    replace hk := hk.ch (Ch.of_wrote ax) hK (fun k e h => bx (e ▸ h))
    replace hK := Nat.le_trans hK (Nat.le_of_eq ax.size.symm)
    have i := zC (zC i ae) an.below
    have i := zG i ax (zQ i t zi)
    have b := zC (zC b ae) an.below
    have b := zG b ax (zQ b t zi)
    have f := zC (zC f ae) an.below
    have f := zG f ax (zQ f t zi)
    have m := zC (zC m ae) an.below
    have m := zG m ax (zQ m t zi)
    have p := zC (zC p ae) an.below
    have p := zG p ax (zQ p t zi)
    have r := zC (zC r ae) an.below
    have r := zG r ax (zQ r t zi)
    have o := zC (zC o ae) an.below
    have o := zG o ax (zQ o t zi)
    have a := zC (zC a ae) an.below
    have a := zG a ax (zQ a t zi)
    have u := zC (zC u ae) an.below
    have u := zG u ax (zQ u t zi)
    have j := (j.below ae).below an.below
    have j := j.wrote ax (j.ne t zi)
    have t := ax.here
    have y := (y.tr an.below).trans (ax.below cx)
    have q := zG (zC q an.below) ax a8
    refine zI (zI (nW (wR (zH (zr (.bool false) (nQ (zF (zP (zD (yA (wR (zH (znt true (nQ (zF (zP (zD (yA (wR (zO 0 p rfl (zOW t (zc (c_add cu da ml (.map none) ((readB ((scanF x.1 x.2).1.2.1) ((scanF x.1 x.2).1.2.2.2.1)).1.1) ((readB ((scanF x.1 x.2).1.2.1) ((scanF x.1 x.2).1.2.2.2.1)).1.2.1) ((readB ((scanF x.1 x.2).1.2.1) ((scanF x.1 x.2).1.2.2.2.1)).1.2.2) w.heap.size _ y.size m q d3) ?_))))))))))))))))))))))
    rintro _ hj ⟨rfl, e7, aj⟩
    replace hk := hk.ch aj hK (fun k e h => dv (e ▸ h))
    replace hK := Nat.le_trans hK aj.size
    have y := aj.below y y.size (fun k e => e ▸ d3)
    have n := (n.below an.below).wrote ax z
    have n := n.ch aj (fun g e d => (n.ne q (by simp [gmObj])) (d ▸ e))
    have j := j.ch aj (fun g e d => (j.ne q (by simp [gmObj])) (d ▸ e))
    have q := e7
    refine zI (nR (zH (zNe .i64 (addE ml (((readB ((scanF x.1 x.2).1.2.1) ((scanF x.1 x.2).1.2.2.2.1)).1.1), ((readB ((scanF x.1 x.2).1.2.1) ((scanF x.1 x.2).1.2.2.2.1)).1.2.1), ((readB ((scanF x.1 x.2).1.2.1) ((scanF x.1 x.2).1.2.2.2.1)).1.2.2))) 0 ?_ ?_)))
    ·intro g8
     refine nQ (zT (wR (zH (zH (L_inline 38 [(I6 (addE ml (((readB ((scanF x.1 x.2).1.2.1) ((scanF x.1 x.2).1.2.2.2.1)).1.1), ((readB ((scanF x.1 x.2).1.2.1) ((scanF x.1 x.2).1.2.2.2.1)).1.2.1), ((readB ((scanF x.1 x.2).1.2.1) ((scanF x.1 x.2).1.2.2.2.1)).1.2.2)))), (pt b1 0), (pt ef 0)] zk zk (wG 11 func38 rfl ?_))))))
     have i := zZ i aj (fun e => ct e)
     have u := zZ u aj (fun e => ce e)
     refine wR (zI (nR (zO 0 i rfl (zO 0 u rfl (zH (zr (Value.agg #[(S file), (I6 x.1), (I6 (addE ml (((readB ((scanF x.1 x.2).1.2.1) ((scanF x.1 x.2).1.2.2.2.1)).1.1), ((readB ((scanF x.1 x.2).1.2.1) ((scanF x.1 x.2).1.2.2.2.1)).1.2.1), ((readB ((scanF x.1 x.2).1.2.1) ((scanF x.1 x.2).1.2.2.2.1)).1.2.2))))]) (zN [(S file), (I6 x.1), (I6 (addE ml (((readB ((scanF x.1 x.2).1.2.1) ((scanF x.1 x.2).1.2.2.2.1)).1.1), ((readB ((scanF x.1 x.2).1.2.1) ((scanF x.1 x.2).1.2.2.2.1)).1.2.1), ((readB ((scanF x.1 x.2).1.2.1) ((scanF x.1 x.2).1.2.2.2.1)).1.2.2))))] 85 ?_)))))))
     intro dq ho bk
     have en := bk.ge y.size
     have dw : ¬ Iv ai.heap.size K dq := fun h => by have := h.2; have := bk.num; omega
     replace hk := hk.ch (Ch.of_below bk.below) hK (fun _ h => h.elim)
     replace hK := Nat.le_trans hK (bk.below.size)
     have a5 := bk.here
     refine zr (.iface 83 (pt dq 0)) (zI (nQ (zW (yF [(.iface 83 (pt dq 0))] ?_))))
     show L _ _ _ _ _ _ (Fm.put _ _ (.iface 83 (pt dq 0))) _
     have b := zC (zZ b aj (fun e => cw e)) bk.below
     refine z1 0 (.pointer none) [(.pointer none)] b ?_
     intro go bp
     replace hk := hk.ch (Ch.of_wrote bp) hK (fun k e h => c7 (e ▸ h))
     replace hK := Nat.le_trans hK (Nat.le_of_eq bp.size.symm)
     have i := zC i bk.below
     have i := zG i bp (zQ i b zi)
     have f := zC (zZ f aj (fun e => cd e)) bk.below
     have f := zG f bp (zQ f b zi)
     have m := zC (zZ m aj (fun e => b8 e)) bk.below
     have m := zG m bp (zQ m b zi)
     have a := zC (zZ a aj (fun e => b0 e)) bk.below
     have a := zG a bp (zQ a b zi)
     have a5 := zG a5 bp (zQ a5 b zi)
     have b := bp.here
     refine z1 0 (.iface 83 (pt dq 0)) [(.iface 83 (pt dq 0))] f ?_
     intro g2 br
     replace hk := hk.ch (Ch.of_wrote br) hK (fun k e h => db (e ▸ h))
     replace hK := Nat.le_trans hK (Nat.le_of_eq br.size.symm)
     have i := zG i br (zQ i f zi)
     have b := zG b br (zQ b f zi)
     have m := zG m br (zQ m f zi)
     have p := zG (zC (zZ p aj (fun e => cr e)) bk.below) bp b5
     have p := zG p br (zQ p f zi)
     have a := zG a br (zQ a f zi)
     have a5 := zG a5 br (zQ a5 f zi)
     have f := br.here
     refine nQ (zW (zK (zR ?_)))
     have y := ((y.tr bk.below).trans (bp.below di)).trans (br.below dj)
     refine round_ret hk (⟨dq, x.1, (addE ml (((readB ((scanF x.1 x.2).1.2.1) ((scanF x.1 x.2).1.2.2.2.1)).1.1), ((readB ((scanF x.1 x.2).1.2.1) ((scanF x.1 x.2).1.2.2.2.1)).1.2.1), ((readB ((scanF x.1 x.2).1.2.1) ((scanF x.1 x.2).1.2.2.2.1)).1.2.2))), rfl, i, b, f, m, p, a, a5, en, dw, y, ?_, ?_⟩)
     ·exact par_add2 p1 cl p2 za za za za
     assumption
    intro hw
    have t := zZ t aj (fun e => dg e)
    have r := zZ r aj (fun e => dr e)
    refine nQ (zF (zP (zD (wR (zO 0 r rfl (zOW t (wO el22 w.heap.size ao bc ((readB ((scanF x.1 x.2).1.2.1) ((scanF x.1 x.2).1.2.2.2.1)).1.1, (readB ((scanF x.1 x.2).1.2.1) ((scanF x.1 x.2).1.2.2.2.1)).1.2.1, (readB ((scanF x.1 x.2).1.2.1) ((scanF x.1 x.2).1.2.2.2.1)).1.2.2) y.size n zo zk rfl rfl zk rfl zk zk ?_)))))))
    intro e2 gv fb a9 ek
    have el := nr_app ek ad hK
    have d1 := wH ek z (yC t)
    have y := y.tg y.size a9 n
    replace hk := hk.ch (Ch.of_grown a9) hK (fun k e => ad k e)
    replace hK := Nat.le_trans hK (a9.size)
    have i := zZ i aj (fun e => ct e)
    have i := yB i a9 (n.ne i zi)
    have b := zZ b aj (fun e => cw e)
    have b := yB b a9 (n.ne b zi)
    have f := zZ f aj (fun e => cd e)
    have f := yB f a9 (n.ne f zi)
    have q := yB q a9 (n.ne q (by simp [gmObj]))
    have m := zZ m aj (fun e => b8 e)
    have m := yB m a9 (n.ne m zi)
    have p := zZ p aj (fun e => cr e)
    have p := yB p a9 (n.ne p zi)
    have r := yB r a9 (n.ne r zi)
    have o := zZ o aj (fun e => dt e)
    have o := yB o a9 (n.ne o zi)
    have a := zZ a aj (fun e => b0 e)
    have a := yB a a9 (n.ne a zi)
    have u := zZ u aj (fun e => ce e)
    have u := yB u a9 (n.ne u zi)
    have j := j.grown a9 (j.apart n zk)
    have z := d1
    have n := fb
    have ad := el; clear el
    refine wF ew 0 e2 [ao] [e2] 22 zk zk n.one zk r zi rfl ?_
    intro hl a1
    replace hk := hk.ch (Ch.of_wrote a1) hK (fun k e h => d8 (e ▸ h))
    replace hK := Nat.le_trans hK (Nat.le_of_eq a1.size.symm)
    have i := zG i a1 (zQ i r zi)
    have b := zG b a1 (zQ b r zi)
    have f := zG f a1 (zQ f r zi)
    have m := zG m a1 (zQ m r zi)
    have p := zG p a1 (zQ p r zi)
    have o := zG o a1 (zQ o r zi)
    have a := zG a a1 (zQ a r zi)
    have u := zG u a1 (zQ u r zi)
    have n := n.wrote a1 (n.ne r zi)
    have j := j.wrote a1 (j.ne r zi)
    have r := a1.here
    have y := y.trans (a1.below e9)
    refine nQ (zV (zO 0 o rfl (zO 0 u rfl (wO el79 w.heap.size af ca x.1 y.size j zo zk rfl rfl zk rfl zk zk ?_))))
    intro ey g3 fc bg ee
    have el := nr_app ee ac hK
    have d9 := wH ee av (yC u)
    have y := y.tg y.size bg j
    replace hk := hk.ch (Ch.of_grown bg) hK (fun k e => ac k e)
    replace hK := Nat.le_trans hK (bg.size)
    have i := yB i bg (j.ne i zi)
    have b := yB b bg (j.ne b zi)
    have f := yB f bg (j.ne f zi)
    have q := zG q a1 cb
    have q := yB q bg (j.ne q (by simp [gmObj]))
    have m := yB m bg (j.ne m zi)
    have p := yB p bg (j.ne p zi)
    have r := yB r bg (j.ne r zi)
    have o := yB o bg (j.ne o zi)
    have a := yB a bg (j.ne a zi)
    have n := n.grown bg (n.apart j zk)
    have av := d9
    have j := fc
    have ac := el; clear el
    refine wF dx 0 ey [af] [ey] 79 zk zk j.one zk o zi rfl ?_
    intro hy a7
    replace hk := hk.ch (Ch.of_wrote a7) hK (fun k e h => eb (e ▸ h))
    replace hK := Nat.le_trans hK (Nat.le_of_eq a7.size.symm)
    have i := zG i a7 (zQ i o zi)
    have b := zG b a7 (zQ b o zi)
    have f := zG f a7 (zQ f o zi)
    have m := zG m a7 (zQ m o zi)
    have p := zG p a7 (zQ p o zi)
    have r := zG r a7 (zQ r o zi)
    have a := zG a a7 (zQ a o zi)
    have n := n.wrote a7 (n.ne o zi)
    have j := j.wrote a7 (j.ne o zi)
    have o := a7.here
    refine zS (zJ ?_)
    have y := y.trans (a7.below e6)
    have q := zG q a7 cs
    refine xY hk a ⟨(bc ++ [((readB ((scanF x.1 x.2).1.2.1) ((scanF x.1 x.2).1.2.2.2.1)).1.1, (readB ((scanF x.1 x.2).1.2.1) ((scanF x.1 x.2).1.2.2.2.1)).1.2.1, (readB ((scanF x.1 x.2).1.2.1) ((scanF x.1 x.2).1.2.2.2.1)).1.2.2)]), (ca ++ [x.1]), (addM ml (((readB ((scanF x.1 x.2).1.2.1) ((scanF x.1 x.2).1.2.2.2.1)).1.1), ((readB ((scanF x.1 x.2).1.2.1) ((scanF x.1 x.2).1.2.2.2.1)).1.2.1), ((readB ((scanF x.1 x.2).1.2.1) ((scanF x.1 x.2).1.2.2.2.1)).1.2.2))), e2, ey, i, b, f, q, m, p, r, o, a, n, ad, j, ac, y, ?_, ?_, ?_, ?_⟩
    ·exact ParI.add p1 za za za (add_kv p2 za)
    ·exact addM_kv p2 za
    ·(simp only [List.length_append, List.length_cons, List.length_nil]; omega)
    (simp only [List.length_append, List.length_cons, List.length_nil]; omega)
   intro g7
   refine zr .nilIface (zN [(I3 0), (I3 0), (U8 0)] 26 ?_)
   intro fz hv aq
   have q := zC (zG (zC q ah.below) ak b6) ae
   have a8 := yZ (yC q) aq
   have y := ((y.tr ah.below).trans (ak.below c8)).tr ae
   have cx := aq.ge y.size
   have bx : ¬ Iv ai.heap.size K fz := fun h => by have := h.2; have := aq.num; omega
   have n := n.below ae
   have z := n.new_ne aq
   replace hk := hk.ch (Ch.of_below aq.below) hK (fun _ h => h.elim)
   replace hK := Nat.le_trans hK (aq.below.size)
   have t := aq.here
   refine zAW [(I3 ((readB ((scanF x.1 x.2).1.2.1) ((scanF x.1 x.2).1.2.2.2.1)).1.1)), (I3 ((readB ((scanF x.1 x.2).1.2.1) ((scanF x.1 x.2).1.2.2.2.1)).1.2.1)), (U8 ((readB ((scanF x.1 x.2).1.2.1) ((scanF x.1 x.2).1.2.2.2.1)).1.2.2))] t ?_
   intro gx a6
   replace hk := hk.ch (Ch.of_wrote a6) hK (fun k e h => bx (e ▸ h))
   replace hK := Nat.le_trans hK (Nat.le_of_eq a6.size.symm)
   have i := zC (zC i ae) aq.below
   have i := zG i a6 (zQ i t zi)
   have b := zC (zC b ae) aq.below
   have b := zG b a6 (zQ b t zi)
   have f := zC (zC f ae) aq.below
   have f := zG f a6 (zQ f t zi)
   have m := zC (zC m ae) aq.below
   have m := zG m a6 (zQ m t zi)
   have p := zC (zC p ae) aq.below
   have p := zG p a6 (zQ p t zi)
   have r := zC (zC r ae) aq.below
   have r := zG r a6 (zQ r t zi)
   have o := zC (zC o ae) aq.below
   have o := zG o a6 (zQ o t zi)
   have a := zC (zC a ae) aq.below
   have a := zG a a6 (zQ a t zi)
   have j := (j.below ae).below aq.below
   have j := j.wrote a6 (j.ne t zi)
   refine zI (zI (nW (wR (zH (zr (.bool false) (nQ (zF (zP (zD (yA (wR (zH (znt false (nQ (zT (yR (zL (yD ?_))))))))))))))))))
   have y := (y.tr aq.below).trans (a6.below cx)
   have q := zG (zC q aq.below) a6 a8
   have n := (n.below aq.below).wrote a6 z
   refine xY hk a ⟨bc, ca, ml, ao, af, i, b, f, q, m, p, r, o, a, n, ad, j, ac, y, ?_, ?_, ?_, ?_⟩
   ·exact ParI.skip p1 za za za
   ·exact p2
   ·(simp only [List.length_append, List.length_cons, List.length_nil]; omega)
   exact p4
  skip
  refine zc (c_read_bad ((scanF x.1 x.2).1.1) ((scanF x.1 x.2).1.2.1) ((scanF x.1 x.2).1.2.2.1) eh ((scanF x.1 x.2).1.2.2.2.1) ((scanF x.1 x.2).1.2.2.2.2) _ au.rd (by exact fj.1) zo (by first | omega | assumption)) ?_
  rintro _ gz ⟨rfl, bo⟩
  replace hk := hk.ch (Ch.of_below bo) hK (fun _ h => h.elim)
  replace hK := Nat.le_trans hK (bo.size)
  refine zH (zr (Value.agg #[(I3 0), (I3 0), (U8 0)]) (zr (.bool false) (zr (.iface 28 (I6 ((readB ((scanF x.1 x.2).1.2.1) ((scanF x.1 x.2).1.2.2.2.1)).2.2))) (zN [(I3 0), (I3 0), (U8 0)] 26 ?_))))
  intro ff f9 ap
  have y := ((y.tr ah.below).trans (ak.below c8)).tr bo
  have cx := ap.ge y.size
  have bx : ¬ Iv ai.heap.size K ff := fun h => by have := h.2; have := ap.num; omega
  have n := n.below bo
  have z := n.new_ne ap
  replace hk := hk.ch (Ch.of_below ap.below) hK (fun _ h => h.elim)
  replace hK := Nat.le_trans hK (ap.below.size)
  have t := ap.here
  refine zAW [(I3 0), (I3 0), (U8 0)] t ?_
  intro gc bb
  replace hk := hk.ch (Ch.of_wrote bb) hK (fun k e h => bx (e ▸ h))
  replace hK := Nat.le_trans hK (Nat.le_of_eq bb.size.symm)
  have i := zC (zC i bo) ap.below
  have i := zG i bb (zQ i t zi)
  have b := zC (zC b bo) ap.below
  have b := zG b bb (zQ b t zi)
  have f := zC (zC f bo) ap.below
  have f := zG f bb (zQ f t zi)
  have m := zC (zC m bo) ap.below
  have m := zG m bb (zQ m t zi)
  have p := zC (zC p bo) ap.below
  have p := zG p bb (zQ p t zi)
  have a := zC (zC a bo) ap.below
  have a := zG a bb (zQ a t zi)
  have u := zC (zC u bo) ap.below
  have u := zG u bb (zQ u t zi)
  have y := (y.tr ap.below).trans (bb.below cx)
  refine zI (zI (nW (wR (zH (zr (.bool true) (nQ (zT (wR (zH (zH (zc (c_code ((readB ((scanF x.1 x.2).1.2.1) ((scanF x.1 x.2).1.2.2.2.1)).2.2) _ (wU hty y)) ?_)))))))))))
  rintro _ f4 ⟨rfl, bd⟩
  replace hk := hk.ch (Ch.of_below bd) hK (fun _ h => h.elim)
  replace hK := Nat.le_trans hK (bd.size)
  refine L_inline 38 [(I6 ((readB ((scanF x.1 x.2).1.2.1) ((scanF x.1 x.2).1.2.2.2.1)).2.2)), (pt b1 0), (pt ef 0)] zk zk (wG 11 func38 rfl ?_)
  have i := zC i bd
  have u := zC u bd
  refine wR (zI (nR (zO 0 i rfl (zO 0 u rfl (zH (zr (Value.agg #[(S file), (I6 x.1), (I6 ((readB ((scanF x.1 x.2).1.2.1) ((scanF x.1 x.2).1.2.2.2.1)).2.2))]) (zN [(S file), (I6 x.1), (I6 ((readB ((scanF x.1 x.2).1.2.1) ((scanF x.1 x.2).1.2.2.2.1)).2.2))] 85 ?_)))))))
  intro cn gh aw
  have y := y.tr bd
  have d4 := aw.ge y.size
  have dz : ¬ Iv ai.heap.size K cn := fun h => by have := h.2; have := aw.num; omega
  replace hk := hk.ch (Ch.of_below aw.below) hK (fun _ h => h.elim)
  replace hK := Nat.le_trans hK (aw.below.size)
  have a0 := aw.here
  refine zr (.iface 83 (pt cn 0)) (zI (nQ (zW (yF [(.iface 83 (pt cn 0))] ?_))))
  show L _ _ _ _ _ _ (Fm.put _ _ (.iface 83 (pt cn 0))) _
  have b := zC (zC b bd) aw.below
  refine z1 0 (.pointer none) [(.pointer none)] b ?_
  intro gd be
  replace hk := hk.ch (Ch.of_wrote be) hK (fun k e h => c7 (e ▸ h))
  replace hK := Nat.le_trans hK (Nat.le_of_eq be.size.symm)
  have i := zC i aw.below
  have i := zG i be (zQ i b zi)
  have f := zC (zC f bd) aw.below
  have f := zG f be (zQ f b zi)
  have m := zC (zC m bd) aw.below
  have m := zG m be (zQ m b zi)
  have a := zC (zC a bd) aw.below
  have a := zG a be (zQ a b zi)
  have a0 := zG a0 be (zQ a0 b zi)
  have b := be.here
  refine z1 0 (.iface 83 (pt cn 0)) [(.iface 83 (pt cn 0))] f ?_
  intro gb bf
  replace hk := hk.ch (Ch.of_wrote bf) hK (fun k e h => db (e ▸ h))
  replace hK := Nat.le_trans hK (Nat.le_of_eq bf.size.symm)
  have i := zG i bf (zQ i f zi)
  have b := zG b bf (zQ b f zi)
  have m := zG m bf (zQ m f zi)
  have p := zG (zC (zC p bd) aw.below) be b5
  have p := zG p bf (zQ p f zi)
  have a := zG a bf (zQ a f zi)
  have a0 := zG a0 bf (zQ a0 f zi)
  have f := bf.here
  refine nQ (zW (zK (zR ?_)))
  have y := ((y.tr aw.below).trans (be.below di)).trans (bf.below dj)
  refine round_ret hk (⟨cn, x.1, ((readB ((scanF x.1 x.2).1.2.1) ((scanF x.1 x.2).1.2.2.2.1)).2.2), rfl, i, b, f, m, p, a, a0, d4, dz, y, ?_, ?_⟩)
  ·exact par_read p1 cl za za
  assumption
 ·intro K A hi fw aa
  obtain ⟨bc, ca, ml, ao, af, i, b, f, q, m, p, r, o, a, n, ad, j, ac, y, p1, p2, p3, p4⟩ := hi
  refine zJ (zD (yA (wR (zO 0 r rfl (zO 0 p rfl (zr (.func (.func 30) #[(pt cu 0)] #[]) (zc (c_idx ao bc cu da ml (.map none) [] _ n.rd m (GmAt.of q) (.inl ⟨rfl, rfl⟩) (by (have := told_len text; omega))) ?_)))))))
  rintro _ gg ⟨rfl, ay⟩
  refine zI (nR (zH (zGe .i64 (idxL ml bc) 0 ?_ ?_)))
  ·intro ga
   have g9 := idxL_bd ml bc
   refine nQ (zT (yA (W_heldJ 9 10 zk zk zk ?_)))
   intro f7 a3
   refine ⟨fun w => (w.heap[b1]? = some (.cells [(S file)].toArray 9 (0, 0))) ∧ (w.heap[dx]? = some (.cells [af].toArray 79 (0, 0))) ∧ (Rd w encInt af ca), ?_⟩
   have i := zC (zC i ay) a3
   have o := zC (zC o ay) a3
   have j := (j.below ay).below a3
   refine jt 0 [0, 5, 6, 7, 9] rfl (S file) ⟨i, o, j.rd⟩ (yM b1 0 (S file) zk zf (fun w2 h2 => yO h2.1 rfl)) (hq := (zA (zA xB))) (jt 1 [1, 3, 4, 5, 6, 7, 9] rfl af ⟨i, o, j.rd⟩ (yM dx 0 af zk zf (fun w2 h2 => yO h2.2.1 rfl)) (hq := (zA (zA xB))) (jp 2 [2, 3, 4, 5, 6, 7, 9] rfl (I6 (idxL ml bc)) ⟨i, o, j.rd⟩ (hq := (zA (zA xB))) ?_))
   have hz := zU ca ((idxL ml bc).toNat) (by first | omega | assumption); obtain ⟨dk, eg⟩ := hz
   have hz := (j.rd).at (k := 1) zj eg; obtain ⟨ei, dc, em, fp⟩ := hz
   refine jt 3 [3, 4, 5, 6, 7, 9] rfl (pt ei (dc + ((idxL ml bc).toNat) * 1)) ⟨i, o, j.rd⟩ (R_ixaddrZ (k := .i64) af (idxL ml bc) ((idxL ml bc).toNat) _ ei dc zo el79 em (by first | omega | assumption) zk zk) (hq := (zA (zA xB))) (jt 4 [4, 5, 6, 7, 9] rfl (I6 dk) ⟨i, o, j.rd⟩ (yM ei (dc + ((idxL ml bc).toNat) * 1) (I6 dk) zk zf (fun w2 h2 => Rd.later (k := 1) h2.2.2 zj em eg 0 _ rfl)) (hq := (zA (zA xB))) (jp 5 [5, 6, 7, 9] rfl (Value.agg #[(S file), (I6 dk), (I6 82)]) ⟨i, o, j.rd⟩ (hq := (zA (zA xB))) (hrun := fun _ _ => zk) ?_))
   refine J_all2 6 8 zk ?_ ?_
   ·skip
    refine J_op 6 rfl ?_ rfl
    refine zN [(S file), (I6 dk), (I6 82)] 85 ?_
    intro c4 gi bi
    have y := (y.tr ay).tr a3
    have dp := bi.ge y.size
    have ag := bi.here
    refine zS ?_
    have i := zC i bi.below
    have o := zC o bi.below
    have j := j.below bi.below
    refine ⟨rfl, .inr ⟨i, o, j.rd⟩, jp 7 [7, 9] rfl (.iface 83 (pt c4 0)) ⟨i, o, j.rd⟩ (hq := (zA (zA xB))) (J_all1 8 zk (J_op 8 rfl ?_ rfl))⟩
    have b := zC (zC (zC b ay) a3) bi.below
    refine z1 0 (.pointer none) [(.pointer none)] b ?_
    intro gk bn
    have i := zG i bn (zQ i b zi)
    have f := zC (zC (zC f ay) a3) bi.below
    have f := zG f bn (zQ f b zi)
    have o := zG o bn (zQ o b zi)
    have aa := zC (zC (zC aa ay) a3) bi.below
    have aa := zG aa bn (zQ aa b zi)
    have ag := zG ag bn (zQ ag b zi)
    have j := j.wrote bn (j.ne b zi)
    have b := bn.here
    refine zS ?_
    refine ⟨rfl, .inr ⟨i, o, j.rd⟩, J_all1 9 zk (J_op 9 rfl ?_ rfl)⟩
    refine z1 0 (.iface 83 (pt c4 0)) [(.iface 83 (pt c4 0))] f ?_
    intro gf cf
    have b := zG b cf (zQ b f zi)
    have aa := zG aa cf (zQ aa f zi)
    have ag := zG ag cf (zQ ag f zi)
    have f := cf.here
    refine zS ?_
    refine ⟨rfl, .inl rfl, J_done zk (zD (zW (zK (end_retM (ds := [⟨.collected ai.heap.size, #[]⟩]) zk (Lv_mark aa ?_)))))⟩
    intro fa c6
    have b := zG b c6 (zQ b aa zi)
    have f := zG f c6 (zQ f aa zi)
    have ag := zG ag c6 (zQ ag aa zi)
    refine Lv_nil [.cell 4 27, .cell 5 39] [(.pointer none), (.iface 83 (pt c4 0))] rfl ⟨⟨⟨b4, 0, none⟩, zk, load_one zk (yO b rfl)⟩, ⟨⟨b7, 0, none⟩, zk, load_one zk (yO f rfl)⟩, trivial⟩ ?_
    have oE : fa.heap[c4]? = some (.cells [(S file), (I6 ((parF text).2.1)), (I6 ((parF text).2.2))].toArray 85 (0, 0)) := by (rw [par_lone3 p1 p2 za za]; exact ag)
    have y := (((y.tr bi.below).trans (bn.below di)).trans (cf.below dj)).trans (c6.below c1)
    exact ⟨c4, rfl, oE, dp, y⟩
   skip
   refine J_op 8 rfl ?_ rfl
   have b := zC (zC b ay) a3
   refine z1 0 (.pointer none) [(.pointer none)] b ?_
   intro f8 bw
   have i := zG i bw (zQ i b zi)
   have f := zC (zC f ay) a3
   have f := zG f bw (zQ f b zi)
   have o := zG o bw (zQ o b zi)
   have aa := zC (zC aa ay) a3
   have aa := zG aa bw (zQ aa b zi)
   have j := j.wrote bw (j.ne b zi)
   have b := bw.here
   refine zS ?_
   refine ⟨rfl, .inr ⟨i, o, j.rd⟩, J_all1 6 zk (J_op 6 rfl ?_ rfl)⟩
   refine zN [(S file), (I6 dk), (I6 82)] 85 ?_
   intro cz gj bj
   have y := ((y.tr ay).tr a3).trans (bw.below di)
   have dp := bj.ge y.size
   have ag := bj.here
   refine zS ?_
   have i := zC i bj.below
   have o := zC o bj.below
   have j := j.below bj.below
   refine ⟨rfl, .inr ⟨i, o, j.rd⟩, jp 7 [7, 9] rfl (.iface 83 (pt cz 0)) ⟨i, o, j.rd⟩ (hq := (zA (zA xB))) (J_all1 9 zk (J_op 9 rfl ?_ rfl))⟩
   have f := zC f bj.below
   refine z1 0 (.iface 83 (pt cz 0)) [(.iface 83 (pt cz 0))] f ?_
   intro f5 cp
   have b := zC b bj.below
   have b := zG b cp (zQ b f zi)
   have aa := zC aa bj.below
   have aa := zG aa cp (zQ aa f zi)
   have ag := zG ag cp (zQ ag f zi)
   have f := cp.here
   refine zS ?_
   refine ⟨rfl, .inl rfl, J_done zk (zD (zW (zK (end_retM (ds := [⟨.collected ai.heap.size, #[]⟩]) zk (Lv_mark aa ?_)))))⟩
   intro fl de
   have b := zG b de (zQ b aa zi)
   have f := zG f de (zQ f aa zi)
   have ag := zG ag de (zQ ag aa zi)
   refine Lv_nil [.cell 4 27, .cell 5 39] [(.pointer none), (.iface 83 (pt cz 0))] rfl ⟨⟨⟨b4, 0, none⟩, zk, load_one zk (yO b rfl)⟩, ⟨⟨b7, 0, none⟩, zk, load_one zk (yO f rfl)⟩, trivial⟩ ?_
   have oE : fl.heap[cz]? = some (.cells [(S file), (I6 ((parF text).2.1)), (I6 ((parF text).2.2))].toArray 85 (0, 0)) := by (rw [par_lone3 p1 p2 za za]; exact ag)
   have y := ((y.tr bj.below).trans (cp.below dj)).trans (de.below c1)
   exact ⟨cz, rfl, oE, dp, y⟩
  intro fe
  exfalso; (rw [par_ok2 p1 p2 fe] at hbad; exact hbad rfl)
 intro K c fg x0 A cl hx fw aa
 obtain ⟨c9, d6⟩ : ∃ c9, c9 = fg ++ [x0] := ⟨_, rfl⟩
 rw [← d6] at cl; try rw [← d6] at hx
 rcases hx with ⟨bq, no, e, rfl, i, b, f, m, p, a, c0, ec, dn, y, q1, q2⟩
 obtain rfl : no = (parF text).2.1 := by rw [q1]
 obtain rfl : e = (parF text).2.2 := by rw [q1]
 refine zW (zR (zK (end_retM (ds := [⟨.collected ai.heap.size, #[]⟩]) zk (Lv_mark aa ?_))))
 intro fd dd
 have b := zG b dd (zQ b aa zi)
 have f := zG f dd (zQ f aa zi)
 have c0 := zG c0 dd (zQ c0 aa zi)
 refine Lv_nil [.cell 4 27, .cell 5 39] [(.pointer none), (.iface 83 (pt bq 0))] rfl ⟨⟨⟨b4, 0, none⟩, zk, load_one zk (yO b rfl)⟩, ⟨⟨b7, 0, none⟩, zk, load_one zk (yO f rfl)⟩, trivial⟩ ?_
 have oE : fd.heap[bq]? = some (.cells [(S file), (I6 ((parF text).2.1)), (I6 ((parF text).2.2))].toArray 85 (0, 0)) := by exact c0
 have y := y.trans (dd.below c1)
 exact ⟨bq, rfl, oE, ec, y⟩
end Go.Proofs.YtddnhlobnembaaaGreatDoor
end

/- === Wcb6 === -/
section
/- Walks, written by my program walk.py out of the specification cb6.py: each theorem says what one function returns and that it leaves memory as it was. -/
namespace Go.Proofs.YtddnhlobnembaaaGreatDoor
open Go Go.RowKit Go.FK _root_.Go.Proofs.Tryz
set_option maxHeartbeats 4000000
set_option maxRecDepth 100000
set_option maxRecDepth 100000
theorem awk_par : parF ([48, 48, 50, 56, 59, 32, 48, 48, 50, 57, 59, 32, 111, 10] : List UInt8) = (([(40, 41, 1)], [1]), 1, 82) := by kernel_rfl
theorem awk_new : newB ([(40, 41, 1), (41, 40, 2)] : List Brk) = none := by kernel_rfl
theorem c_round (w : World) :
  Calls Tryz.prog 27 #[] w (Ret fun v w' => ∃ (q0 : Value), v = q0 ∧ Row w' w.heap.size 26 3 encBrk q0 ([(40, 41, 1), (41, 40, 2)] : List Brk) ∧ Below w.heap.size w w') := by
 refine wG 4 func27 rfl ?_
 have d := Below.refl w.heap.size w
 refine wR (zI (nR (zr (Value.agg #[(I3 40), (I3 41), (U8 1)]) (zr (Value.agg #[(I3 41), (I3 40), (U8 2)]) (zM 2 [(I3 40), (I3 41), (U8 1), (I3 41), (I3 40), (U8 2)] 26 ?_)))))
 intro e f a
 have c := a.ge d.size
 have b : Row f w.heap.size 26 3 encBrk (.slice (some ⟨e, 0, none⟩) 2 2) ([(40, 41, 1), (41, 40, 2)] : List (Int × Int × Int)) := Row.made ([(40, 41, 1), (41, 40, 2)] : List (Int × Int × Int)) a c rfl rfl (by first | decide | (simp; done))
 have d := d.tr a.below
 exact zI (nQ (zW (yF [(.slice (some ⟨e, 0, none⟩) 2 2)] ⟨(.slice (some ⟨e, 0, none⟩) 2 2), rfl, b.cast (by rfl), d⟩)))
theorem c_awake8 (w : World) (hty : w.cell? ⟨0, 0, none⟩ = some (.iface 180 (.agg #[.pointer (some ⟨7, 39, none⟩)]))) :
  Calls Tryz.prog 14 #[] w (Ret fun v w' => v = (.bool true) ∧ Below w.heap.size w w') := by
 refine wG 61 func14 rfl ?_
 have g := Below.refl w.heap.size w
 refine wR (zI (nR (zc (c_round  _ ) ?_)))
 rintro q1 w2 ⟨_, rfl, j, aa⟩
 have j := j.base g.size
 refine zc (c_New_ok q1 ([(40, 41, 1), (41, 40, 2)] : List Brk) _ j.rd (by first | omega | decide | (simp; done)) (by exact awk_new)) ?_
 rintro _ z ⟨l, o, rfl, b, h, a, i, y⟩
 have g := g.tr aa
 replace h := Nat.le_trans g.size h
 replace i := Nat.le_trans g.size i
 have g := g.tr y
 refine zH (zr (pt l 0) (zr (I6 0) (zr (I6 0) (zI (zI (zI (nR (zc (calls_as (c_Parse_bad ([102] : List UInt8) ([48, 48, 50, 56, 59, 32, 48, 48, 50, 57, 59, 32, 111, 10] : List UInt8) _ (wU hty g) (by first | omega | decide | (simp; done)) (by (rw [awk_par]; decide))) (zk : _ = fun v w' => ∃ (cb0 : Nat), v = (.tuple #[(.pointer none), (.iface 83 (pt cb0 0))]) ∧ w'.heap[cb0]? = some (.cells [(S [102]), (I6 1), (I6 82)].toArray 85 (0, 0)) ∧ z.heap.size ≤ cb0 ∧ Below z.heap.size z w')) ?_))))))))
 rintro _ w9 ⟨n, rfl, c, e, k⟩
 replace e := Nat.le_trans g.size e
 have b := zC b k
 have a := zC a k
 refine zH (zr (.pointer none) (zr (.iface 83 (pt n 0)) (zI (zI (nW (wR (zH (zr (.bool false) (zH (zw (zH (zw (zr (.bool false) (wM (zH (zw (zH (zw (zr (.bool false) (wM (zH (zw (zH (zw (zr (.bool false) (wM (zH (zw (zH (zw (zr (.bool false) (wM (nQ (zF (zP (zD (wR (zH (zc (c_Bracket l o (kv ([(40, 41, 1), (41, 40, 2)] : List Brk)) (.map none) [] 40 _ b (GmAt.of a) (.inl ⟨rfl, rfl⟩)) ?_)))))))))))))))))))))))))))))))))))))))
 rintro _ ag ⟨rfl, f⟩
 refine zH (zr (I3 ((brkF (kv ([(40, 41, 1), (41, 40, 2)] : List Brk)) 40).1)) (zr (U8 ((brkF (kv ([(40, 41, 1), (41, 40, 2)] : List Brk)) 40).2)) (zI (zI (nR (zH (zEq .i32 ((brkF (kv ([(40, 41, 1), (41, 40, 2)] : List Brk)) 40).1) 41 ?_ ?_)))))))
 ·intro ad
  refine zH (zw (zH (zw (zEq .u8 ((brkF (kv ([(40, 41, 1), (41, 40, 2)] : List Brk)) 40).2) 1 ?_ ?_))))
  ·intro ak
   have b := zC b f
   have a := zC a f
   refine wB (zH (zw (zH (zw (zc (c_Matches l o (kv ([(40, 41, 1), (41, 40, 2)] : List Brk)) (.map none) [] 40 41 _ b (GmAt.of a) (.inl ⟨rfl, rfl⟩)) ?_)))))
   rintro _ ab ⟨rfl, d⟩
   refine yK (mtcF (kv ([(40, 41, 1), (41, 40, 2)] : List Brk)) [] 40 41) ?_ ?_
   ·intro ah
    have b := zC b d
    have a := zC a d
    refine wB (zH (zw (zH (zw (zc (c_Write12 l o (kv ([(40, 41, 1), (41, 40, 2)] : List Brk)) (.map none) _ b a (by (simp [kv]; done))) ?_)))))
    rintro _ ac ⟨rfl, m⟩
    have := wT (kv ([(40, 41, 1), (41, 40, 2)] : List Brk))
    refine zw (L_seq (writeB (kv ([(40, 41, 1), (41, 40, 2)] : List Brk))) ([48, 48, 50, 56, 59, 32, 48, 48, 50, 57, 59, 32, 111, 10, 48, 48, 50, 57, 59, 32, 48, 48, 50, 56, 59, 32, 99, 10] : List UInt8) rfl zk zk ?_ ?_)
    ·intro ai
     have c := zC (zC (zC c f) d) m
     refine wB (zH (zw (zH (zw (zc (c_Fault_Error n ([102] : List UInt8) 1 82 _ c (by first | omega | decide | (simp; done)) (by first | omega | decide | (simp; done)) (by first | omega | decide | (simp; done))) ?_)))))
     rintro _ aj ⟨rfl, p⟩
     refine zw (L_seq (fltD ([102] : List UInt8) 1 82) ([102, 58, 49, 58, 32, 101, 114, 114, 111, 114, 32, 56, 50] : List UInt8) rfl zk zk ?_ ?_)
     ·intro af
      have g := ((((g.tr k).tr f).tr d).tr m).tr p
      exact wB (zI (nQ (zW (yF [(.bool true)] ⟨rfl, g⟩))))
     intro q
     exfalso; exact q zk
    intro t
    exfalso; exact t zk
   intro r
   exfalso; exact absurd (r.symm.trans zk) (by decide : ¬ false = true)
  intro s
  exfalso; exact s zk
 intro u
 exfalso; exact u zk
end Go.Proofs.YtddnhlobnembaaaGreatDoor
end

/- === Wcb10 === -/
section
/- Walks, written by my program walk.py out of the specification cb10.py: each theorem says what one function returns and that it leaves memory as it was. -/
namespace Go.Proofs.YtddnhlobnembaaaGreatDoor
open Go Go.RowKit Go.FK _root_.Go.Proofs.Tryz
set_option maxHeartbeats 4000000
set_option maxRecDepth 100000
section
variable {rows acc a b : List Brk} {x y : Brk} {k : Int} {i : Nat}
theorem bk_text (h : newB rows = none) : (parF (writeB (kv rows))).1.1 = rowsB (kv rows) ∧ (parF (writeB (kv rows))).2.2 = 0 := by
 have a := newB_ok h
 have b := parF_rows (a.perm (rowsB_perm a).symm)
 unfold writeB
 rw [b]; exact ⟨rfl, rfl⟩
theorem bk_rows (h : newB rows = none) : rowsB (kv (parF (writeB (kv rows))).1.1) = rowsB (kv rows) := by
 have a := newB_ok h
 rw [(bk_text h).1]; exact (rowsB_same a (rowsB_perm a).symm).symm
theorem bk_len (h : newB rows = none) : (kv rows).length ≤ 1114112 := by rw [kv_len]; exact book_len (newB_ok h)
theorem bk_plen (h : newB rows = none) : (kv (parF (writeB (kv rows))).1.1).length ≤ 1114112 := by
 rw [(bk_text h).1, kv_len, wE]; exact bk_len h
theorem bk_wlen (h : newB rows = none) : (writeB (kv rows)).length ≤ 67108864 := by have a := wT (kv rows); have b := bk_len h; omega
theorem bk_acc (h : newB rows = none) (hi : acc ++ (rows.take (k + 1).toNat).reverse = rows.reverse) (hk : k < 0) : newB acc = none ∧ rowsB (kv acc) = rowsB (kv rows) := by
 have e : (k + 1).toNat = 0 := by omega
 rw [e, List.take_zero, List.reverse_nil, List.append_nil] at hi
 have b := newB_ok h
 have a : rows.Perm acc := by rw [hi]; exact (List.reverse_perm rows).symm
 exact ⟨newB_of (b.perm a), (rowsB_same b a).symm⟩
theorem bk_step (h : acc ++ (rows.take (k + 1).toNat).reverse = rows.reverse) (h0 : 0 ≤ k) (hx : rows[k.toNat]? = some x) : (acc ++ [x]) ++ (rows.take (k - 1 + 1).toNat).reverse = rows.reverse := by
 have a : (k + 1).toNat = k.toNat + 1 := by omega
 have b : (k - 1 + 1).toNat = k.toNat := by omega
 rw [a, List.take_add_one, hx] at h
 rw [b, ← h]; simp
theorem bk_same (h : a.take i = b.take i) (hx : a[i]? = some x) (hy : b[i]? = some y) (e : x = y) : a.take (i + 1) = b.take (i + 1) := by
 rw [List.take_add_one, List.take_add_one, h, hx, hy, e]
theorem bk_all (h : a.take i = b.take i) (hl : a.length = b.length) (hi : a.length ≤ i) : a = b := by
 rwa [List.take_of_length_le hi, List.take_of_length_le zo] at h
theorem bk_at (hx : a[i]? = some x) (hy : b[i]? = some y) (e : x ≠ y) : ¬ a = b := fun h => by subst h; rw [hx] at hy; exact e (Option.some.inj hy)
theorem bk_ext (h1 : x.1 = y.1) (h2 : x.2.1 = y.2.1) (h3 : x.2.2 = y.2.2) : x = y := by obtain ⟨a, b, c⟩ := x; obtain ⟨d, e, f⟩ := y; cases h1; cases h2; cases h3; rfl
theorem bk_wr (h : newB rows = none) : writeB (kv (parF (writeB (kv rows))).1.1) = writeB (kv rows) := congrArg (fun l : List Brk => l.flatMap lineB) (bk_rows h)
theorem bk_wa (h : rowsB (kv acc) = rowsB (kv rows)) : writeB (kv acc) = writeB (kv rows) := congrArg (fun l : List Brk => l.flatMap lineB) h
end
attribute [local irreducible] parF writeB rowsB newB kv
theorem eqagg26 (a0 : Int) (a1 : Int) (a2 : Int) (c0 : Int) (c1 : Int) (c2 : Int) (w : World) : (Op.equalIn 10000 26 (.agg #[.int .i32 a0, .int .i32 a1, .int .u8 a2]) (.agg #[.int .i32 c0, .int .i32 c1, .int .u8 c2])).run Tryz.prog w = .ok (a0 == c0 && a1 == c1 && a2 == c2) w := by
 have i : Tryz.prog.underlying 26 = some (.struct (Tryz.prog.fieldsOf 26)) := by kernel_rfl
 have g : Tryz.prog.stoodInHeld 26 = false := by kernel_rfl
 rw [show (10000 : Nat) = 9999 + 1 from rfl, run_equalIn_agg w 9999 26 _ _ i g]
 simp only [Program.fieldsOf, Tryz.underlying26]
 have f := Tryz.isAgg21
 have c := Tryz.sizeOf21
 have b := Tryz.underlying21
 have e := Tryz.isAgg24
 have d := Tryz.sizeOf24
 have a := Tryz.underlying24
 try simp only [S]
 go_simp
 by_cases h : a0 = c0 <;> by_cases j : a1 = c1 <;> by_cases k : a2 = c2 <;> simp [h, j, k]
theorem c_listed8 (aa : Nat) (m_rs : Nat) (rs : List (Int × (Int × Int × Int))) (ah : Value) (w : World) (m : w.heap[aa]? = some (.cells [(.map (some m_rs)), ah].toArray 69 (0, 0))) (i : w.heap[m_rs]? = some (gmObj .i32 vBrk rs)) (hm : rs.length ≤ 1114112) :
  Calls Tryz.prog 18 #[(pt aa 0)] w (Ret fun v w' => ∃ (q0 : Value), v = q0 ∧ Row w' w.heap.size 26 3 encBrk q0 (rowsB rs) ∧ Below w.heap.size w w') := by
 refine enterM (args := [(pt aa 0)]) func18 rfl (zk : _ = 13) zk ?_
 have p := Below.refl w.heap.size w
 refine wR (zI (nR (zN [(.slice none 0 0)] 22 ?_)))
 intro b1 w2 aj
 have ad := yZ (yC i) aj
 have a4 := aj.ge p.size
 have d := aj.here
 have m := zC m aj.below
 have i := zC i aj.below
 refine nW (wR (zH (zc (c_Rows aa m_rs rs ah _ m i) ?_)))
 rintro _ w4 ⟨av, rfl, b, ao, ax⟩
 have p := p.tr aj.below
 replace ao := Nat.le_trans p.size ao
 refine nQ (zY ?_)
 have m := zC m ax
 have ab : aa < w4.heap.size := yC m
 have i := zC i ax
 have q : m_rs < w4.heap.size := yC i
 have d := zC d ax
 have ae : b1 < w4.heap.size := yC d
 have t : av < w4.heap.size := yC b
 have p := p.tr ax
 have aw := p.size
 have bf := p
 refine W_range 58 [(pt av 0)] (rowsB rs) zk (fun _ _ => rfl) (it_Rows12 av aa m_rs rs ah za) ⟨b, m, i⟩ ((fun D A B h hc hd => ⟨zZ h.1 hc (fun h => Nat.not_lt.2 (hd _ h) t), zZ h.2.1 hc (fun h => Nat.not_lt.2 (hd _ h) ab), zZ h.2.2 hc (fun h => Nat.not_lt.2 (hd _ h) q)⟩)) (by intro x; rfl) (fun K ap A => ∃ (ac : List Brk) (j : Value), (A.heap[aa]? = some (.cells [(.map (some m_rs)), ah].toArray 69 (0, 0))) ∧ (A.heap[m_rs]? = some (gmObj .i32 vBrk rs)) ∧ (A.heap[b1]? = some (.cells [j].toArray 22 (0, 0))) ∧ (A.heap[av]? = some (.cells [(pt aa 0)].toArray 27 (0, 0))) ∧ (Row A w.heap.size 26 3 encBrk j ac) ∧ (∀ g, Value.ownBlock j = some g → ¬ Iv w4.heap.size K g) ∧ (Below w.heap.size w A) ∧ (ac = ap)) (fun K c ap A => False) ?_ ?_ ?_ ?_ ?_ ?_
 ·intro A hA
  exact ⟨[], (.slice none 0 0), zC m hA, zC i hA, zC d hA, zC b hA, Row.nil _ _ _ _ _, nr_nil _ _, p.trans (hA.mono p.size), by rfl⟩
 ·rintro K ap A B ⟨ac, j, m, i, d, b, a, f, p, p1⟩ hc
  exact ⟨ac, j, zZ m hc (fun h => Nat.not_lt.2 h.1 ab), zZ i hc (fun h => Nat.not_lt.2 h.1 q), zZ d hc (fun h => Nat.not_lt.2 h.1 ae), zZ b hc (fun h => Nat.not_lt.2 h.1 t), a.ch hc f, f, hc.below p p.size (fun k h => Nat.le_trans aw h.1), p1⟩
 ·intro K c _ A B h hc; exact h.elim
 ·intro l K ap x A hi hN bj hK a3
  obtain ⟨ac, j, m, i, d, b, a, f, p, p1⟩ := hi
  have hk := Kp.refl (w4.heap.size) K A
  have a5 : ¬ Iv (w4.heap.size) K aa := fun h => Nat.not_lt.2 h.1 ab
  have aq : ¬ Iv (w4.heap.size) K m_rs := fun h => Nat.not_lt.2 h.1 q
  have au : ¬ Iv (w4.heap.size) K b1 := fun h => Nat.not_lt.2 h.1 ae
  have ay : ¬ Iv (w4.heap.size) K av := fun h => Nat.not_lt.2 h.1 t
  have b := hN.1
  have m := hN.2.1
  have i := hN.2.2
  have bc := a3.length_le; rw [List.length_append, List.length_singleton, wE] at bc
  have bk : ac.length = ap.length := by rw [p1]
  refine zV (zN [(I3 0), (I3 0), (U8 0)] 26 ?_)
  intro b8 w9 o
  have af := yZ (yC i) o
  have a8 := o.ge p.size
  have al : ¬ Iv w4.heap.size K b8 := fun h => by have := h.2; have := o.num; omega
  have n := a.new_ne o
  replace hk := hk.ch (Ch.of_below o.below) hK (fun _ h => h.elim)
  replace hK := Nat.le_trans hK (o.below.size)
  have r := o.here
  refine zAW [(I3 x.1), (I3 x.2.1), (U8 x.2.2)] r ?_
  intro bl s
  replace hk := hk.ch (Ch.of_wrote s) hK (fun k e h => al (e ▸ h))
  replace hK := Nat.le_trans hK (Nat.le_of_eq s.size.symm)
  have m := zC m o.below
  have m := zG m s (zQ m r zi)
  have d := zC d o.below
  have d := zG d s (zQ d r zi)
  have b := zC b o.below
  have b := zG b s (zQ b r zi)
  have r := s.here
  refine zS (zD ⟨hk, ?_⟩)
  intro be y
  have p := (p.tr o.below).trans (s.below a8)
  have p := y.below p p.size (fun k h => Nat.le_trans aw h.1)
  replace hK := Nat.le_trans hK y.size
  replace hk := Kp.refl (w4.heap.size) K be
  have d := zZ d y au
  have r := zZ r y al
  have a := ((a.below o.below).wrote s n).ch y f
  refine zY (zV (zO 0 d rfl (zOW r (wO el22 w.heap.size j ac (x.1, x.2.1, x.2.2) p.size a zo zk rfl rfl zk rfl zk zk ?_))))
  intro a1 bm a9 z am
  have a6 := nr_app am f hK
  have an := wH am n (yC r)
  have p := p.tg p.size z a
  replace hk := hk.ch (Ch.of_grown z) hK (fun k e => f k e)
  replace hK := Nat.le_trans hK (z.size)
  have m := zZ m y a5
  have m := yB m z (a.ne m zi)
  have i := zZ (zG (zC i o.below) s af) y aq
  have i := yB i z (a.ne i (by simp [gmObj]))
  have d := yB d z (a.ne d zi)
  have b := zZ b y ay
  have b := yB b z (a.ne b zi)
  have n := an
  have a := a9
  have f := a6; clear a6
  refine wF b1 0 a1 [j] [a1] 22 zk zk a.one zk d zi rfl ?_
  intro bn u
  replace hk := hk.ch (Ch.of_wrote u) hK (fun k e h => au (e ▸ h))
  replace hK := Nat.le_trans hK (Nat.le_of_eq u.size.symm)
  have m := zG m u (zQ m d zi)
  have b := zG b u (zQ b d zi)
  have a := a.wrote u (a.ne d zi)
  have d := u.here
  refine zS (zJ ?_)
  have p := p.trans (u.below a4)
  have i := zG i u ad
  refine xY hk ⟨b, m, i⟩ ⟨(ac ++ [(x.1, x.2.1, x.2.2)]), a1, m, i, d, b, a, f, p, ?_⟩
  rw [p1]
 ·intro K A hi bi az
  obtain ⟨ac, j, m, i, d, b, a, f, p, p1⟩ := hi
  refine zJ (zD (wR (zO 0 d rfl (zI (nQ (zW (end_retM (ds := [⟨.collected w4.heap.size, #[]⟩]) zk (Lv_mark az ?_))))))))
  intro bh a0
  have a := a.wrote a0 (a.ne az zi)
  refine Lv_nil [.tmp 2] [j] rfl ⟨zk, trivial⟩ ?_
  have p := p.trans (a0.below aw)
  exact ⟨j, rfl, a.cast (by first | rfl | exact p1), p⟩
 intro K c _ x A _ h; exact h.elim
theorem c_same8 (p : Value) (a : List (Int × Int × Int)) (j : Value) (b : List (Int × Int × Int)) (w : World) (d : Rd w encBrk p a) (h : Rd w encBrk j b) (ha : a.length ≤ 4194304) (hb_ : b.length ≤ 4194304) :
  Calls Tryz.prog 17 #[p, j] w (Ret fun v w' => v = (.bool (decide (a = b))) ∧ Below w.heap.size w w') := by
 refine wG 26 func17 rfl ?_
 have q := Below.refl w.heap.size w
 refine wR (zI (nW (wR (zH (zln underlying22 (d).len (zH (zln underlying22 (h).len (nNe ((a).length) ((b).length) ?_ ?_))))))))
 ·intro h1
  exact nQ (zT (wR (zI (nQ (zW (zK (yF [(.bool false)] ⟨eb (by exact (decide_eq_false (fun e => by subst e; omega)).symm), q⟩)))))))
 intro h2
 refine nQ (zF (zP (zD (yA (wR (zI (nQ (zY (xD (fun m s0 w0 => ∃ (i : Nat), (m = a.length - i) ∧ (s0.ds = []) ∧ ([0, 1, 5].map s0.f = [p, j, (N6 i)]) ∧ (Rd w0 encBrk p a) ∧ (Rd w0 encBrk j b) ∧ (Below w.heap.size w w0) ∧ (i ≤ a.length) ∧ (a.length = b.length) ∧ (a.take i = b.take i)) _ ⟨0, rfl, zk, zk, d, h, q, (Nat.zero_le _), zo, rfl⟩ ?_)))))))))
 rintro m3 s4 w5 ⟨i, hm, s, af, d, h, q, i1, i2, i3⟩
 refine yU af (yA (wR (zH (zH (zln underlying22 (d).len (nLt i ((a).length) ?_ ?_))))))
 ·intro h6
  refine nQ (zT (zP (zD (yA (zY (yA (xJ zk zk (yE (yE ?_)))))))))
  have r := zU a i zo; obtain ⟨g, ae⟩ := r
  have r := (d).at (k := 3) zj ae
  obtain ⟨g9, o, ad, ac⟩ := r
  refine yJ (k := .i64) p i _ g9 o el22 ad zo zk zk (Lq_loadA g9 (o + i * 3) [(I3 g.1), (I3 g.2.1), (U8 g.2.2)] zk zf zf ac (yE (yE ?_)))
  have r := zU b i zo; obtain ⟨c, y⟩ := r
  have r := (h).at (k := 3) zj y
  obtain ⟨u, n, ab, aa⟩ := r
  refine yJ (k := .i64) j i _ u n el22 ab zo zk zk (Lq_loadA u (n + i * 3) [(I3 c.1), (I3 c.2.1), (U8 c.2.2)] zk zf zf aa (Lq_aggne [(I3 g.1), (I3 g.2.1), (U8 g.2.2)] [(I3 c.1), (I3 c.2.1), (U8 c.2.2)] (g.1 == c.1 && g.2.1 == c.2.1 && g.2.2 == c.2.2) zk zk zk (eqagg26 g.1 g.2.1 g.2.2 c.1 c.2.1 c.2.2) ?_ ?_))
  ·intro aj
   refine yS ?_
   intro an t
   replace q := q.tr t
   exact zD (zT (wR (zI (nQ (zW (zR (zK (zK (zR (zK (yF [(.bool false)] (hd := s) ⟨eb (by exact (decide_eq_false (bk_at za za (fun e => by subst e; simp_all))).symm), q⟩)))))))))))
  intro z
  replace z : g.1 = c.1 ∧ g.2.1 = c.2.1 ∧ g.2.2 = c.2.2 := by simpa [and_assoc] using z
  refine yS ?_
  intro am l
  refine zD (zF (zP (zJ (zD (zV (zH (zad i 1 (zI (zS ?_)))))))))
  replace q := q.tr l
  replace d := d.below l
  replace h := h.below l
  refine zD ⟨_, zo, (i + 1), rfl, s, zk, d, h, q, zo, ?_, ?_⟩
  ·exact i2
  exact bk_same i3 za za (by obtain ⟨e1, e2, e3⟩ := ‹_ ∧ _ ∧ _›; exact bk_ext e1 e2 e3)
 intro ao
 exact nQ (zF (yR (zL (zL (yD (zD (wR (zI (nQ (zW (yF [(.bool true)] (hd := s) ⟨eb (by exact (decide_eq_true (bk_all i3 i2 zo)).symm), q⟩)))))))))))
theorem c_furrowlaw08_BracketsBack (e : Value) (rows : List (Int × Int × Int)) (w : World) (c : Rd w encBrk e rows) (hty : w.cell? ⟨0, 0, none⟩ = some (.iface 180 (.agg #[.pointer (some ⟨7, 39, none⟩)]))) (hl : rows.length ≤ 9223372036854775807) :
  Calls Tryz.prog 4 #[e] w (Ret fun v w' => v = (.bool true) ∧ Below w.heap.size w w') := by
 refine wG 103 func4 rfl ?_
 have d := Below.refl w.heap.size w
 have l := c
 refine wR (zI (nR (zH ?_)))
 by_cases bx : newB rows = none
 ·skip
  refine zc (c_New_ok e rows _ c (by first | assumption | omega) za) ?_
  rintro _ w2 ⟨u, ae, rfl, a, au, b, aw, bh⟩
  replace au := Nat.le_trans d.size au
  replace aw := Nat.le_trans d.size aw
  replace d := d.tr bh
  replace c := l.below d
  refine zH (zr (pt u 0) (zr (I6 0) (zr (I6 0) (zI (zI (zI (nW (wR (zH (zr (.bool false) (nQ (zF (zP (zD (wR (zI (nW (wR (zH (zln underlying22 (c).len (xM (((rows).length : Nat) : Int) 1 ((((rows).length : Nat) : Int) - 1) rfl zk zk (xC _ zh zh) (zI (nQ (zY (xD (fun m s0 w0 => ∃ (k : Int) (n : List Brk) (ay : Value), (m = (k + 1).toNat) ∧ (s0.ds = []) ∧ ([0, 2, 3, 6, 7].map s0.f = [e, (.bool false), (pt u 0), ay, (I6 k)]) ∧ (Rd w0 encBrk e rows) ∧ (Row w0 w.heap.size 26 3 encBrk ay n) ∧ (w0.heap[u]? = some (.cells [(.map (some ae)), (.map none)].toArray 69 (0, 0))) ∧ (w0.heap[ae]? = some (gmObj .i32 vBrk (kv rows))) ∧ (Below w.heap.size w w0) ∧ (-1 ≤ k) ∧ (k < rows.length) ∧ (n.length + (k + 1).toNat = rows.length) ∧ (n ++ (rows.take (k + 1).toNat).reverse = rows.reverse)) _ ⟨((((rows).length : Nat) : Int) - 1), [], (.slice none 0 0), rfl, zk, zk, c, Row.nil _ _ _ _ _, a, b, d, zo, zo, (by simp only [List.length_nil]; omega), (by rw [List.nil_append, List.take_of_length_le zo])⟩ ?_)))))))))))))))))))))))))
  rintro m6 s7 w8 ⟨k, n, ay, hm, a8, bm, c, z, a, b, d, i1, i2, i3, i4⟩
  refine yU bm ?_
  have bq := bk_len za
  rw [kv_len] at bq
  refine yA (wR (zH (zGe .i64 k 0 ?_ ?_)))
  ·intro h9
   refine nQ (zT (zP (zD (yA (zY (zV (zH (zH (zH ?_)))))))))
   have hz := zU rows k.toNat zo; obtain ⟨y, a6⟩ := hz
   have hz := (c).at (k := 3) zj a6
   obtain ⟨bf, av, bd, be⟩ := hz
   refine L_ixaddrZ (k := .i64) e k k.toNat _ bf av zo el22 bd zo zk zk (L_loadA bf (av + k.toNat * 3) [(I3 y.1), (I3 y.2.1), (U8 y.2.2)] zk zk zk be (wO el22 w.heap.size ay n (y.1, y.2.1, y.2.2) d.size z zo zk rfl rfl zk rfl zk zk ?_))
   intro bo ch ba aq bi
   replace d := d.tg d.size aq z
   replace a := yB a aq (z.ne a zi)
   replace b := yB b aq (z.ne b (by simp [gmObj]))
   replace z := ba
   refine zI (zS (zJ (zD (zV (zH (xM k 1 (k - 1) rfl zk zk (xC _ zh zh) (zI (zS ?_))))))))
   replace c := l.below d
   refine zD ⟨_, zo, (k - 1), (n ++ [(y.1, y.2.1, y.2.2)]), bo, rfl, a8, zk, c, z, a, b, d, zo, zo, ?_, ?_⟩
   ·(simp only [List.length_append, List.length_cons, List.length_nil]; omega)
   exact bk_step i4 zo za
  intro cj
  refine nQ (zF (yR (zL (zL (yD (zD (wR (zH (zc (c_Write12 u ae (kv rows) (.map none) _ a b (by exact bk_len za)) ?_)))))))))
  rintro _ cf ⟨rfl, al⟩
  have := wT (kv rows)
  replace d := d.tr al
  refine zc (c_Parse_ok ([] : List UInt8) (writeB (kv rows)) _ (wU hty d) (by exact bk_wlen za) (by exact (bk_text za).2)) ?_
  rintro _ cc ⟨ax, a0, rfl, j, am, h, aj, an⟩
  replace am := Nat.le_trans d.size am
  replace aj := Nat.le_trans d.size aj
  replace z := (z.below al).below an
  refine zH (zr (pt ax 0) (zr .nilIface (zI (zI (nR (zH (zc (c_New_ok ay n _ z.rd (by first | assumption | omega) (by exact (bk_acc za i4 zo).1)) ?_)))))))
  rintro _ b8 ⟨ap, a1, rfl, i, ao, g, ak, ab⟩
  replace d := d.tr an
  replace ao := Nat.le_trans d.size ao
  replace ak := Nat.le_trans d.size ak
  replace a := zC (zC (zC a al) an) ab
  replace b := zC (zC (zC b al) an) ab
  refine zH (zr (pt ap 0) (zr (I6 0) (zr (I6 0) (zI (zI (zI (nW (wR (zH (zr (.bool false) (zH (zw (zH (zw (zr (.bool false) (wM (zH (zw (zH (zw (zr (.bool false) (wM (zH (zw (zH (zw (zr (.bool false) (wM (nQ (zF (zP (zD (wR (zH (zc (c_listed8 u ae (kv rows) (.map none) _ a b (by exact bk_len za)) ?_)))))))))))))))))))))))))))))))))))
  rintro br b4 ⟨_, rfl, p, r⟩
  replace d := d.tr ab
  replace p := p.base d.size
  replace j := zC (zC j ab) r
  replace h := zC (zC h ab) r
  refine zH (zc (c_listed8 ax a0 (kv (parF (writeB (kv rows))).1.1) (.map none) _ j h (by exact bk_plen za)) ?_)
  rintro bp cb ⟨_, rfl, ah, o⟩
  replace d := d.tr r
  replace ah := ah.base d.size
  replace p := p.below o
  refine zc (c_same8 br (rowsB (kv rows)) bp (rowsB (kv (parF (writeB (kv rows))).1.1)) _ p.rd ah.rd (by (rw [wE]; exact Nat.le_trans (m := 1114112) (by exact bk_len za) (by decide))) (by (rw [wE]; exact Nat.le_trans (m := 1114112) (by exact bk_plen za) (by decide)))) ?_
  rintro _ bz ⟨rfl, s⟩
  refine yK (decide ((rowsB (kv rows)) = (rowsB (kv (parF (writeB (kv rows))).1.1)))) ?_ ?_
  ·intro b5
   replace j := zC (zC j o) s
   replace h := zC (zC h o) s
   refine zH (zw (zH (zw (zc (c_Write12 ax a0 (kv (parF (writeB (kv rows))).1.1) (.map none) _ j h (by exact bk_plen za)) ?_))))
   rintro _ b6 ⟨rfl, aa⟩
   have := wT (kv (parF (writeB (kv rows))).1.1)
   replace a := zC (zC (zC (zC a r) o) s) aa
   replace b := zC (zC (zC (zC b r) o) s) aa
   refine zw (zH (zw (zc (c_Write12 u ae (kv rows) (.map none) _ a b (by exact bk_len za)) ?_)))
   rintro _ b3 ⟨rfl, af⟩
   have := wT (kv rows)
   refine zw (L_seq (writeB (kv (parF (writeB (kv rows))).1.1)) (writeB (kv rows)) rfl zk zk ?_ ?_)
   ·intro ck
    replace a := zC a af
    replace b := zC b af
    refine wB (zH (zw (zH (zw (zc (c_listed8 u ae (kv rows) (.map none) _ a b (by exact bk_len za)) ?_)))))
    rintro bj bu ⟨_, rfl, q, ac⟩
    replace d := (((d.tr o).tr s).tr aa).tr af
    replace q := q.base d.size
    replace i := zC (zC (zC (zC (zC (zC i r) o) s) aa) af) ac
    replace g := zC (zC (zC (zC (zC (zC g r) o) s) aa) af) ac
    refine zw (zH (zw (zc (c_listed8 ap a1 (kv n) (.map none) _ i g (by (rw [kv_len]; omega))) ?_)))
    rintro bs b1 ⟨_, rfl, ag, t⟩
    replace d := d.tr ac
    replace ag := ag.base d.size
    replace q := q.below t
    refine zw (zc (c_same8 bj (rowsB (kv rows)) bs (rowsB (kv n)) _ q.rd ag.rd (by (rw [wE]; exact Nat.le_trans (m := 1114112) (by exact bk_len za) (by decide))) (by (rw [wE]; exact Nat.le_trans (m := 1114112) (by (rw [kv_len]; omega)) (by decide)))) ?_)
    rintro _ cg ⟨rfl, ad⟩
    refine yK (decide ((rowsB (kv rows)) = (rowsB (kv n)))) ?_ ?_
    ·intro bt
     replace i := zC (zC i t) ad
     replace g := zC (zC g t) ad
     refine wB (zH (zw (zH (zw (zc (c_Write12 ap a1 (kv n) (.map none) _ i g (by (rw [kv_len]; omega))) ?_)))))
     rintro _ bv ⟨rfl, ar⟩
     have := wT (kv n)
     replace a := zC (zC (zC (zC a ac) t) ad) ar
     replace b := zC (zC (zC (zC b ac) t) ad) ar
     refine zw (zH (zw (zc (c_Write12 u ae (kv rows) (.map none) _ a b (by exact bk_len za)) ?_)))
     rintro _ b2 ⟨rfl, az⟩
     have := wT (kv rows)
     refine zw (L_seq (writeB (kv n)) (writeB (kv rows)) rfl zk zk ?_ ?_)
     ·intro cd
      replace a := zC a az
      replace b := zC b az
      refine wB (zH (zw (zH (zw (zc (c_listed8 u ae (kv rows) (.map none) _ a b (by exact bk_len za)) ?_)))))
      rintro ce ci ⟨_, rfl, ai, a7⟩
      replace d := (((d.tr t).tr ad).tr ar).tr az
      replace ai := ai.base d.size
      replace d := d.tr a7
      replace c := l.below d
      refine zw (zln underlying22 (ai.rd).len (zw (zH (zw (zln underlying22 (c).len (zw (nEq (((rowsB (kv rows))).length) ((rows).length) ?_ ?_)))))))
      ·intro b7
       refine wB (zH (zw (zc (c_awake8  _ (wU hty d)) ?_)))
       rintro _ ca ⟨rfl, a9⟩
       replace d := d.tr a9
       exact wB (zI (nQ (zW (yF [(.bool true)] (hd := a8) ⟨rfl, d⟩))))
      intro bk
      exfalso; exact bk (by rw [wE, kv_len])
     intro a4
     exfalso; first | exact a4 (bk_wr za) | exact a4 (bk_wa (bk_acc za i4 zo).2)
    intro a5
    exfalso; first | exact absurd a5 (by rw [bk_rows za]; simp) | exact absurd a5 (by rw [(bk_acc za i4 zo).2]; simp)
   intro bg
   exfalso; first | exact bg (bk_wr za) | exact bg (bk_wa (bk_acc za i4 zo).2)
  intro bb
  exfalso; first | exact absurd bb (by rw [bk_rows za]; simp) | exact absurd bb (by rw [(bk_acc za i4 zo).2]; simp)
 skip
 refine zc (c_New_bad e rows _ c (by first | assumption | omega) zo) ?_
 rintro _ b9 ⟨rfl, a3⟩
 refine zH (zr (.pointer none) (zr (N6 (newI rows)) (zr (I6 (newE rows)) (zI (zI (zI (nW (wR (zH (zNe .i64 (newE rows) 0 ?_ ?_))))))))))
 ·intro b0
  replace d := d.tr a3
  refine nQ (zT (wR (zH (zr (.bool true) (zH (zw (zc (c_awake8  _ (wU hty d)) ?_)))))))
  rintro _ bw ⟨rfl, bc⟩
  replace d := d.tr bc
  exact wB (zI (nQ (zW (zK (yF [(.bool true)] ⟨rfl, d⟩)))))
 intro bn
 exfalso; exact newE_ne za bn
end Go.Proofs.YtddnhlobnembaaaGreatDoor
end

/- === FKbe === -/
section
/- FKbe: how long a slice that is handed in can be. My own text. -/
namespace Go.FK
open Go Go.RowKit Go.ChangeShapes Go.WideShapes
theorem open_len {P : Program} {t e b0 base : Nat} {H : Type} {en : TypeId × Value → H} {w : World} {spare : Nat → Bool} {held : Bool} {v : Value} {d : DataW H} {ps : List MemPlace} {α : Type} {enc : α → List Value} {xs : List α}
  (ht : P.underlying t = some (.slice e)) (hok : Value.okWide P w .any b0 t v) (h : DataW.Trod en P w base spare held t v d ps) (hr : Rd w enc v xs) : xs.length ≤ 9223372036854775807 := by
 obtain ⟨a, len, cap, rfl⟩ := okWide_slice ht hok
 obtain ⟨g, f, c, _⟩ := hr
 injection c with _ e3 _
 subst e3
 obtain ⟨fuel, hf⟩ := h
 rcases DataW.trod_slice ht hf with ⟨b, _⟩ | ⟨a', len', cap', elems, rest, m, _, b, _, hb, hl, hm, _⟩
 ·simp [Value.cells] at b
  rw [b.2.1]; simp
 ·simp [Value.cells] at b
  have i : cap' ≤ 9223372036854775807 := hm
  omega
end Go.FK
end
