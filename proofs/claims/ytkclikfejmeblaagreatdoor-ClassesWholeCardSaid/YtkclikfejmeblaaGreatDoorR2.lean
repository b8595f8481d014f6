/- Joined by my program pack.py out of my own texts: PLrds FKq FKv FKu FKo PHexM PHex PGE PFold PGF PWordM PLapart FKai PCls FKl FKi FKab FKak PCl2 POne PCl3 Wllines Wlscan. -/
import Derived.Lib.Join
import Derived.Scope
import Derived.Shelf.Strings.SlTrimAscii
import Derived.OrdersIn
import Derived.MapKept
import Derived.Carry
import Derived.RangeFuncBound
import Derived.Shelf.Strings.BuilderK
import Derived.Lib.OthersKept
import Derived.Lib.FrozenHead2
import Derived.Lib.Builder
import Derived.Lib.AppendStr
import Derived.Test.YtkclikfejmeblaaGreatDoorProg
import Derived.Tactics2
import Derived.Test.YtkclikfejmeblaaGreatDoorR1
set_option linter.unusedVariables false
set_option linter.unusedSimpArgs false
/- === PLrds === -/
section
/- Plain laws of chapter 3: the reference's lines, one by one; lists of lines held against each other. -/
set_option linter.unusedVariables false
namespace Go.FK
open Go Go.RowKit
theorem lines_len {l : List LineV} {k : List (Int × List UInt8)} (h : l.map stripL = linesF k) : l.length = k.length := by
  have := congrArg List.length h
  rw [List.length_map] at this
  unfold linesF at this
  rw [List.length_map] at this; exact this
open Classical in
noncomputable def eqLs (a b : List LineV) : Bool := decide (a.map stripL = b.map stripL)
theorem fs_len {s : List UInt8} {l : List LineV} (h : l.map stripL = linesF (toldF s)) (hs : s.length ≤ 1073741823) : ∀ x ∈ l, x.fs.length ≤ 1073741824 := by
  intro x hx
  have h1 : stripL x ∈ linesF (toldF s) := by rw [← h]; exact List.mem_map_of_mem hx
  unfold linesF at h1
  obtain ⟨y, hy, e⟩ := List.mem_map.1 h1
  have h2 := scan_flen y.1 y.2
  rw [e] at h2
  have h3 := told_short hy
  have h4 : (stripL x).2.2.2.1 = x.fs := rfl
  rw [h4] at h2
  omega
def NRd (w : World) (v : Value) (xs : List LineV) : Prop := Rd w encLine v xs ∧ ∀ x ∈ xs, Rd w encStr x.v x.fs
section
variable {F : Nat} {w w' : World} {B E k i : Nat} {enc : LineV → List Value} {v v' q : Value} {xs ys : List LineV}
theorem NRd.below (h : NRd w v xs) (hb : Below w.heap.size w w') : NRd w' v xs := ⟨h.1.below hb, fun x hx => (h.2 x hx).below hb⟩
theorem NRd.inner {x : LineV} (h : NRd w v xs) (hx : x ∈ xs) : Rd w encStr x.v x.fs := h.2 x hx
theorem NRd.nil (w : World) : NRd w (.slice none 0 0) [] := ⟨Rd.nil _ _, fun _ h => by cases h⟩
def ND (xs : List LineV) : Prop := ∀ (i j : Nat) (x y : LineV) (g : Nat), xs[i]? = some x → xs[j]? = some y → i ≠ j → x.v.ownBlock = some g → y.v.ownBlock ≠ some g
def SRow (F i : Nat) (w : World) (B E k : Nat) (enc : LineV → List Value) (v : Value) (xs : List LineV) : Prop := Row w B E k enc v xs ∧ (∀ (j : Nat) (x : LineV), i ≤ j → xs[j]? = some x → Row w B F 1 encStr x.v x.fs) ∧ ND xs
theorem SRow.of (h : NRow F w B E k enc v xs) (hd : ND xs) : SRow F 0 w B E k enc v xs := ⟨h.1, fun j x _ hx => h.2 x (List.mem_of_getElem? hx), hd⟩
theorem SRow.below (h : SRow F i w B E k enc v xs) (hb : Below w.heap.size w w') : SRow F i w' B E k enc v xs := ⟨h.1.below hb, fun j x hj hx => (h.2.1 j x hj hx).below hb, h.2.2⟩
theorem SRow.rd (h : SRow F i w B E k enc v xs) : Rd w enc v xs := h.1.rd
theorem SRow.shape (h : SRow F i w B E k enc v xs) : SliceOk v xs.length := Row.shape h.1
theorem SRow.inner_at {x : LineV} (h : SRow F i w B E k enc v xs) (hx : xs[i]? = some x) : Row w B F 1 encStr x.v x.fs := h.2.1 i x (Nat.le_refl _) hx
theorem SRow.spoilt {x : LineV} (h : SRow F i w B E k enc v xs) (hx : xs[i]? = some x) (hc : Ch (fun g => x.v.ownBlock = some g) w w') (hE : Nat.beq F E = false) : SRow F (i + 1) w' B E k enc v xs := by
  refine ⟨h.1.ch hc fun g e e2 => ?_, fun j y hj hy => (h.2.1 j y (by omega) hy).ch hc fun g e e2 => ?_, h.2.2⟩
  · rcases (h.inner_at hx).apart h.1 hE with h1 | h1
    · rw [e2] at h1; cases h1
    · exact h1 (by rw [e, e2])
  · exact h.2.2 i j x y g hx hy (by omega) e2 e
end
end Go.FK
end

/- === FKq === -/
section
/- FKq: arguments of plain data, opened: structs, slices of plain elements, lines. My own text. -/
set_option linter.unusedVariables false
namespace Go.FK
open Go Go.RowKit Go.ChangeShapes Go.WideShapes
def CapOk (v : Value) : Prop := ∀ a n c, v = .slice a n c → n ≤ c
structure Flat (P : Program) (t : TypeId) (k : Nat) {α : Type} (enc : α → List Value) (dat : (H : Type) → α → DataW H) (good : α → Prop) : Prop where
  len : ∀ a, (enc a).length = k
  size : P.cellsOf t = k
  dec : ∀ {H : Type} {en : TypeId × Value → H} {w : World} {base : Nat} {spare : Nat → Bool} {held : Bool} {n : Nat} {cs : List Value} {x : DataW H × List MemPlace}, DataW.trod en P w base spare held n t cs = some x → ∃ a, cs = enc a ∧ x = (dat H a, []) ∧ good a
section
variable {P : Program} {t : TypeId}
variable {H : Type} {en : TypeId × Value → H} {w : World} {base n : Nat} {spare : Nat → Bool} {held : Bool} {cs : List Value} {x : DataW H × List MemPlace}
end
end Go.FK
end

/- === FKv === -/
section
/- FKv: scopes with jumps, characters as texts, contracts of the library's calls on lines. My own text. -/
namespace Go.FK
open Go Go.RowKit
def jmpQ (J : Nat → Fm → World → Prop) (Q : Post) : Post
  | .goto l, s, w => J l s w
  | e, s, w => Q e s w
section
variable {r : Option Nat} {P : Program} {n : Nat} {Q : Post} {s : Fm} {w : World}
theorem jmpQ_ret {J : Nat → Fm → World → Prop} (h : Q .ret s w) : jmpQ J Q .ret s w := h
theorem jmpQ_goto {J : Nat → Fm → World → Prop} {l : Nat} (h : J l s w) : jmpQ J Q (.goto l) s w := h
theorem stepR_scope' {b : Frame} {a : Act} {k : List Item} {cs : List Frame} {P : Program} {c : Code} {w : World} : step P (lone (b.atR a (.code (.scope c) :: k)) cs w) = .next (lone (b.atR a (.code c :: .inScope c :: k)) cs w) :=
  step_lone_go (by simp [stepG, stepG.exec, Frame.atR])
theorem stepR_inScope' {b : Frame} {a : Act} {k : List Item} {cs : List Frame} {P : Program} {c : Code} {w : World} : step P (lone (b.atR a (.inScope c :: k)) cs w) = .next (lone (b.atR a k) cs w) :=
  step_lone_go (by simp [stepG, stepG.exec, Frame.atR])
theorem W_scope {c : Code} (I : Nat → Nat → Fm → World → Prop) (first : W r P n c (jmpQ (fun l s w => ∃ m, I l m s w) Q) s w)
    (pass : ∀ l m s w, I l m s w → ∃ rest, findLabel c l = some rest ∧ W r P n rest (jmpQ (fun l' s' w' => ∃ m', m' < m ∧ I l' m' s' w') Q) s w) : W r P n (.scope c) Q s w := by
  rw [W_iff]
  intro b k cs hro hb hr
  have key : ∀ m l s w, I l m s w → ∃ rest, findLabel c l = some rest ∧ ∃ e a' w', upQ n Q e a' w' ∧ ArrivesIn (Machine.fenced P (Fw r)) P (lone (b.atR (s.act n) (.code rest :: .inScope c :: k)) cs w) b k cs e a' w' := by
    intro m
    induction m using Nat.strongRecOn with
    | _ m ih =>
      intro l s w hI
      obtain ⟨rest, hf, hW⟩ := pass l m s w hI
      refine ⟨rest, hf, ?_⟩
      obtain ⟨e, a₁, w₁, ⟨s₁, rfl, hq⟩, harr⟩ := (W_iff.1 hW) b (.inScope c :: k) cs hro hb hr
      cases e with
      | normal => exact ⟨.normal, _, w₁, ⟨s₁, rfl, hq⟩, StepsIn.trans harr (.one (fenced_calm hb hr rfl) stepR_inScope')⟩
      | goto l' =>
        obtain ⟨m', hlt, hI'⟩ := hq
        obtain ⟨rest', hf', e₂, a₂, w₂, hq₂, harr₂⟩ := ih m' hlt l' s₁ w₁ hI'
        have hg : gotoIn l' (.inScope c :: k) = some (.code rest' :: .inScope c :: k) := by simp [gotoIn, hf']
        exact ⟨e₂, a₂, w₂, hq₂, .of_steps (harr.1 _ hg) harr₂⟩
      | exit id =>
        have hx : exitTo id (.inScope c :: k) = exitTo id k := by simp [exitTo]
        exact ⟨_, _, w₁, ⟨s₁, rfl, hq⟩, fun k' hk => harr.1 k' (by rw [hx]; exact hk), fun hr' hk => harr.2 hr' (by rw [hx]; exact hk)⟩
      | ret => exact ⟨_, _, w₁, ⟨s₁, rfl, hq⟩, harr⟩
      | panic ch => exact ⟨_, _, w₁, ⟨s₁, rfl, hq⟩, harr⟩
      | outgrown => exact ⟨_, _, w₁, ⟨s₁, rfl, hq⟩, harr⟩
  obtain ⟨e, a₁, w₁, ⟨s₁, rfl, hq⟩, harr⟩ := (W_iff.1 first) b (.inScope c :: k) cs hro hb hr
  have h0 : (lone (b.atR (s.act n) (.code (.scope c) :: k)) cs w).fenced P (Fw r) := fenced_calm hb hr rfl
  cases e with
  | normal => exact ⟨.normal, _, w₁, ⟨s₁, rfl, hq⟩, .head h0 stepR_scope' (StepsIn.trans harr (.one (fenced_calm hb hr rfl) stepR_inScope'))⟩
  | goto l' =>
    obtain ⟨m', hI'⟩ := hq
    obtain ⟨rest', hf', e₂, a₂, w₂, hq₂, harr₂⟩ := key m' l' s₁ w₁ hI'
    have hg : gotoIn l' (.inScope c :: k) = some (.code rest' :: .inScope c :: k) := by simp [gotoIn, hf']
    exact ⟨e₂, a₂, w₂, hq₂, .of_steps (.head h0 stepR_scope' (harr.1 _ hg)) harr₂⟩
  | exit id =>
    have hx : exitTo id (.inScope c :: k) = exitTo id k := by simp [exitTo]
    exact ⟨_, _, w₁, ⟨s₁, rfl, hq⟩, fun k' hk => .head h0 stepR_scope' (harr.1 k' (by rw [hx]; exact hk)),
      fun hr' hk => let ⟨k₁, h1, h2⟩ := harr.2 hr' (by rw [hx]; exact hk); ⟨k₁, h1, .head h0 stepR_scope' h2⟩⟩
  | ret => exact ⟨_, _, w₁, ⟨s₁, rfl, hq⟩, .of_steps (.one h0 stepR_scope') harr⟩
  | panic ch => exact ⟨_, _, w₁, ⟨s₁, rfl, hq⟩, .of_steps (.one h0 stepR_scope') harr⟩
  | outgrown => exact ⟨_, _, w₁, ⟨s₁, rfl, hq⟩, .of_steps (.one h0 stepR_scope') harr⟩
end
section ops
variable {r : Option Nat} {P : Program} {n : Nat} {Q : Post} {s : Fm} {w : World} {ops : Array Oper} {rest : List Oper}
variable {d : Option Tmp} {ty : TypeId} {pos : String} {af : Array Edge}
theorem L_runeStr {a b : Nat} {X : Operand} (x : Int) (hx : s.ev n X = .int .i32 x) (ha : P.underlying a = some (.int .i32)) (hb : P.underlying b = some .string)
    (h : L r P n ops Q rest (s.put d (S (encL [x]))) w) : L r P n ops Q (⟨d, .convert a b X, ty, pos, af, none⟩ :: rest) s w := by
  refine L_val _ w (by simp) ?_ h
  have hrun : (convert a b (.int .i32 x)).run P w = .ok (S (encL [x])) w := by
    simp [convert, run_underlying ha, run_underlying hb, encL, S, Conv.intToString]
  simp only [execOp, hx, Sem.run_bind, hrun, Result.andThen_ok, Sem.run_pure]
end ops
theorem hasPrefix_contract {P : Program} {f : FuncId} (h1 : ∀ (s p : ByteArray) (w : World), Calls P f #[.string s, .string p] w fun e w' => e = .returned (.bool (Lib.hasPrefix s.data.toList p.data.toList)) ∧ w' = w) (s p : List UInt8) (w : World) :
    Calls P f #[S s, S p] w (Ret fun v w' => v = .bool (p.isPrefixOf s) ∧ Below w.heap.size w w') := by
  refine (h1 ⟨s.toArray⟩ ⟨p.toArray⟩ w).mono ?_
  rintro e w' ⟨rfl, rfl⟩
  exact ⟨_, rfl, rfl, Below.refl _ _⟩
theorem index_byte (s : List UInt8) (c : UInt8) : Lib.indexByte s c = Lib.index s [c] := by
  induction s with
  | nil => rfl
  | cons b l ih =>
    rw [Lib.indexByte, Lib.index, ih]
    have : ([c].isPrefixOf (b :: l)) = (b == c) := by simp [List.isPrefixOf, Bool.beq_comm]
    rw [this]
theorem index1_contract {P : Program} {f : FuncId} (h1 : ∀ (s : ByteArray) (c : UInt8) (w : World), Calls P f #[.string s, .string ⟨#[c]⟩] w fun e w' => e = .returned (.int .i64 (Lib.indexByte s.data.toList c)) ∧ w' = w) (s sep : List UInt8) (w : World) (h : sep.length = 1) :
    Calls P f #[S s, S sep] w (Ret fun v w' => v = .int .i64 (Lib.index s sep) ∧ Below w.heap.size w w') := by
  obtain ⟨c, rfl⟩ := List.length_eq_one_iff.1 h
  refine (h1 ⟨s.toArray⟩ c w).mono ?_
  rintro e w' ⟨rfl, rfl⟩
  exact ⟨_, rfl, by rw [← index_byte], Below.refl _ _⟩
theorem trim_contract {P : Program} {f : FuncId}
    (h1 : ∀ (s cutset : ByteArray) (w : World), s.size ≤ 9223372036854775807 → cutset.size < 4294967281 → (∀ (j : Nat) (b : UInt8), cutset.data.toList[j]? = some b → b.toNat < 128) →
      Calls P f #[.string s, .string cutset] w fun e w' => e = .returned (.string ⟨(Lib.trimS s.data.toList cutset.data.toList).toArray⟩) ∧ Below w.heap.size w w')
    (s c : List UInt8) (w : World) (ha : c.all (fun b => decide (b.toNat < 128)) = true) (hs : s.length ≤ 1073741824) (hc : c.length ≤ 1073741824) :
    Calls P f #[S s, S c] w (Ret fun v w' => v = S (Lib.trimS s c) ∧ Below w.heap.size w w') := by
  refine (h1 ⟨s.toArray⟩ ⟨c.toArray⟩ w (by rw [size_mk]; omega) (by rw [size_mk]; omega) (Go.Proofs.ascii_of_all ha)).mono ?_
  rintro e w' ⟨rfl, h⟩
  exact ⟨_, rfl, rfl, h⟩
end Go.FK
end

/- === FKu === -/
section
/- FKu: regions that draw their order, in a round or not: what hangs on nothing is taken first, the rest in every order. My own text. -/
namespace Go.FK
open Go Go.RowKit
def noDefers (ops : Array Oper) : Bool := ops.toList.all fun o => notDefer o.op
theorem ops_fw {r : Option Nat} {P : Program} {ops : Array Oper} {Q : Exit → Act → World → Prop} (hd : noDefers ops = true) :
    ∀ (l : List Nat) (a : Act) (w : World), wpOpsIn (Fw none) 0 P ops Q l a w → wpOpsIn (Fw r) 0 P ops Q l a w
  | [], a, w, h => h
  | i :: rest, a, w, h => by
    rw [wpOpsIn_cons] at h ⊢
    unfold wpOpIn at h ⊢
    cases ho : ops[i]? with
    | none => simp only [ho] at h ⊢; exact ops_fw hd rest a w h
    | some o =>
      simp only [ho] at h ⊢
      have hne : ∀ c, o.op ≠ .defer c := notDefer_ne (List.all_eq_true.1 hd o (by
        have := Array.mem_of_getElem? ho
        simpa using this))
      split
      · rename_i hw
        rw [if_pos hw] at h
        have h := Oper.wpIn_mono (fun a w => ops_fw (r := r) hd rest a w) h
        unfold Oper.wpIn at h ⊢
        refine ⟨fun _ _ => trivial, ?_⟩
        have h2 := h.2
        rw [Oper.semAt_eq _ _ _ hne] at h2 ⊢
        exact h2
      · rename_i hw
        rw [if_neg hw] at h
        exact ⟨fun _ _ => trivial, ops_fw hd rest _ w h.2⟩
section
variable {P : Program} {n : Nat} {Q : Post} {s : Fm} {w : World} {ops : Array Oper} {fuel : Nat} {listed : Array Bool}
def Li (P : Program) (n : Nat) (ops : Array Oper) (Q : Post) (fuel : Nat) (listed : Array Bool) (s : Fm) (w : World) : Prop := wpAnyIn (Fw none) 0 P .any ops (upQ n Q) fuel listed (s.act n) w
theorem W_draws {r : Option Nat} {id : Nat} {l : List Oper} (N : Nat) (hN : Nat.beq l.length N = true) (hm : P.follows .mixedOrders = true) (hd : noDefers l.toArray = true)
    (h : ∀ w', Below w.heap.size w w' → Li P n l.toArray Q N (Array.replicate N false) s w') : W r P n (.region id l.toArray true) Q s w := by
  refine W_iff.2 (wpIn_region_draw fun t => ops_fw hd _ _ _ ?_)
  have hS := h { w with drawn := w.drawn + 1 } (Below.refl _ _).drew
  have e : l.length = N := Nat.eq_of_beq_eq_true hN
  subst e
  simp only [Region.schedule, hm, Bool.true_or, if_true]
  exact wpAnyIn_sound _ t _ _ _ (by simpa [Li] using hS)
def noCall : Op → Bool
  | .call _ => false
  | _ => true
theorem about_none {o : Oper} (h : noCall o.op = true) (w : World) (ρ : Operand → Value) : o.about P w ρ = none := by
  unfold Oper.about
  cases ho : o.op <;> first | rfl | (rw [ho] at h; cases h)
theorem yH (i : Nat) {o : Oper} (v : Value) (hi : ops[i]? = some o) (hs : Region.noSelect ops = true) (hf : Region.free .any ops listed i = true) (hr : (Region.ready .any ops listed).contains i = true)
    (hc : noCall o.op = true) (hq : NoPanic Q) (hw : wantB ops n s o.guard = true) (hrun : ∀ w', (execOp (s.ev n) o).run P w' = .ok (.value v) w') (h : Li P n ops Q fuel (listed.setIfInBounds i true) (s.put o.dst v) w) : Li P n ops Q (fuel + 1) listed s w := by
  unfold Li at h ⊢
  refine wpAnyIn_take (v := v) rfl hi hs hf hr ?_ ⟨.inl ⟨?_, ?_⟩, fun w => about_none hc w _⟩ ?_
  · intro c a w hp
    obtain ⟨s', _, hp⟩ := hp
    exact absurd hp (hq c s' w)
  · rw [wanted_want]; exact hw
  · intro w'; rw [act_eval]; exact hrun w'
  · rw [act_put]; exact h
theorem xC (hr : Region.ready .any ops listed = []) (h : Q .normal s w) : Li P n ops Q fuel listed s w := wpAnyIn_done hr ⟨s, rfl, h⟩ fuel
def Iop (P : Program) (n : Nat) (ops : Array Oper) (Q : Post) (fuel : Nat) (listed : Array Bool) (i : Nat) (s : Fm) (w : World) : Prop :=
  wpOpIn (Fw none) 0 P ops (upQ n Q) i (wpAnyIn (Fw none) 0 P .any ops (upQ n Q) fuel (listed.setIfInBounds i true)) (s.act n) w
theorem yY (i : Nat) (hr : Region.ready .any ops listed = [i]) (h : Iop P n ops Q fuel listed i s w) : Li P n ops Q (fuel + 1) listed s w :=
  wpAnyIn_all hr (by simp) fun j hj => by
    obtain rfl : j = i := by simpa using hj
    exact h
theorem I_all2 (i k : Nat) (hr : Region.ready .any ops listed = [i, k]) (h : Iop P n ops Q fuel listed i s w) (h2 : Iop P n ops Q fuel listed k s w) : Li P n ops Q (fuel + 1) listed s w :=
  wpAnyIn_all hr (by simp) fun j hj => by
    simp only [List.mem_cons, List.not_mem_nil, or_false] at hj
    rcases hj with rfl | rfl
    · exact h
    · exact h2
theorem xQ (i : Nat) {o : Oper} (hi : ops[i]? = some o)
    (h : L none P n ops (fun e s' w' => e = .normal ∧ Li P n ops Q fuel (listed.setIfInBounds i true) s' w') [o] s w) (hg : o.guard = none) : Iop P n ops Q fuel listed i s w := by
  unfold Iop wpOpIn
  rw [hi]
  rw [L_iff] at h
  unfold wpListIn at h
  have hwant : Region.wanted o (yielded ops (s.act n).tmps) = true := by rw [wanted_want, hg]; rfl
  rw [if_pos hwant] at h
  simp only [hwant, if_true]
  have key : ∀ {a w'}, wpListIn (Fw none) 0 P ops (upQ n fun e s' w' => e = .normal ∧ Li P n ops Q fuel (listed.setIfInBounds i true) s' w') [] a w' → wpAnyIn (Fw none) 0 P .any ops (upQ n Q) fuel (listed.setIfInBounds i true) a w' := by
    rintro a w' ⟨s', rfl, _, hL⟩
    exact hL
  have h := Oper.wpIn_mono (fun a w => key) h
  unfold Oper.wpIn at h ⊢
  refine ⟨h.1, ?_⟩
  have h2 := h.2
  generalize (o.semAt (Fw none).round (s.act n).eval).run P w = r at h2
  cases r with
  | ok x w' =>
    cases x <;> simp only [Oper.uponIn] at h2 ⊢ <;> first
      | exact h2
      | exact ⟨h2.1, CallsIn.mono h2.2 (fun e w'' he => by
          cases e with
          | returned v => exact he
          | panicked c => obtain ⟨s', _, he, _⟩ := he; cases he
          | outgrown => exfalso; obtain ⟨_, _, s', _, he, _⟩ := he; cases he)⟩
      | exact ⟨h2.1, RoundIn.mono h2.2 (fun e w'' he => by
          cases e with
          | returned v => exact he
          | panicked c => obtain ⟨s', _, he, _⟩ := he; cases he
          | outgrown => exfalso; obtain ⟨_, _, s', _, he, _⟩ := he; cases he)⟩
  | halt x w' =>
    cases x <;> first
      | (exfalso; simp only [Oper.uponIn] at h2; obtain ⟨s', _, he, _⟩ := h2; cases he)
      | exact h2
end
end Go.FK
namespace Go.FK
end Go.FK
namespace Go.FK
attribute [irreducible] Iop Li
end Go.FK
end

/- === FKo === -/
section
/- FKo: maps from whole numbers to whole numbers, made by the call itself, whose keys are laid once: made, looked up, laid. My own text. -/
set_option linter.unusedVariables false
namespace Go.FK
open Go Go.RowKit
def mEnt (k v : IntKind) : List (Int × Int) → Nat → List MapEntry
  | [], _ => []
  | p :: l, i => ⟨.int k p.1, .int v p.2, i⟩ :: mEnt k v l (i + 1)
def mapObj (k v : IntKind) (l : List (Int × Int)) : Obj := .map (mEnt k v l 0).toArray l.length
def midx : List (Int × Int) → Int → Option (Nat × Int)
  | [], _ => none
  | p :: l, x => if x = p.1 then some (0, p.2) else (midx l x).map fun q => (q.1 + 1, q.2)
def mget (l : List (Int × Int)) (x : Int) : Option Int := (midx l x).map (·.2)
section ops
variable {r : Option Nat} {P : Program} {n : Nat} {Q : Post} {s : Fm} {w : World} {ops : Array Oper} {rest : List Oper}
variable {d : Option Tmp} {ty : TypeId} {pos : String} {af : Array Edge}
end ops
end Go.FK
end

/- === PHexM === -/
section
/- Plain functions of chapter 4: code points in hexadecimal. -/
set_option linter.unusedVariables false
namespace Go.FK
open Go Go.RowKit
def hexTab : List UInt8 := [48, 49, 50, 51, 52, 53, 54, 55, 56, 57, 65, 66, 67, 68, 69, 70]
def digitV (c : Nat) : Int := if 48 ≤ c ∧ c ≤ 57 then (c : Int) - 48 else if 65 ≤ c ∧ c ≤ 70 then (c : Int) - 55 else -1
theorem digitV_range (c : Nat) : -1 ≤ digitV c ∧ digitV c ≤ 15 := by
  unfold digitV; repeat' split
  all_goals omega
set_option maxRecDepth 100000 in
theorem ibF_tab (c : UInt8) : ibF [48, 49, 50, 51, 52, 53, 54, 55, 56, 57, 65, 66, 67, 68, 69, 70] ((c.toNat : Nat) : Int) = digitV c.toNat := by
  have key : (List.range 256).all (fun n => Lib.indexByte hexTab (UInt8.ofNat n) == digitV n) = true := by kernel_rfl
  have h := List.all_eq_true.1 key c.toNat (List.mem_range.2 (by have := c.toNat_lt; omega))
  have h2 : Lib.indexByte hexTab (UInt8.ofNat c.toNat) = digitV c.toNat := by simpa using h
  unfold ibF
  rw [Int.toNat_natCast]
  exact h2
def hexV : List UInt8 → Nat → Option Nat
  | [], n => some n
  | c :: l, n => if digitV c.toNat < 0 then none else hexV l (16 * n + (digitV c.toNat).toNat)
def hexF (s : List UInt8) : Int × Int :=
  if (s.length < 4 ∨ 6 < s.length) ∨ (4 < s.length ∧ s.getD 0 0 = 48) then (0, 40) else
  match hexV s 0 with
  | none => (0, 40)
  | some n => if 1114111 < n then (0, 40) else ((n : Int), 0)
theorem hexF_len {s : List UInt8} (h : s.length < 4 ∨ 6 < s.length) : hexF s = (0, 40) := by unfold hexF; rw [if_pos (.inl h)]
theorem hexF_zero {s : List UInt8} {c : UInt8} (h : 4 < s.length) (hc : s[0]? = some c) (h0 : c.toNat = 48) : hexF s = (0, 40) := by
  have : c = 48 := UInt8.toNat_inj.1 h0
  unfold hexF; rw [if_pos (.inr ⟨h, by rw [List.getD_eq_getElem?_getD, hc, this]; rfl⟩)]
theorem hexF_bad {s : List UInt8} {i n : Nat} {c : UInt8} (hi : hexV (s.drop i) n = hexV s 0) (hc : s[i]? = some c) (hd : digitV c.toNat < 0) : hexF s = (0, 40) := by
  rw [drop_some hc, hexV, if_pos hd] at hi
  unfold hexF
  split
  · rfl
  · rw [← hi]
theorem hexV_step {s : List UInt8} {i n : Nat} {c : UInt8} (hi : hexV (s.drop i) n = hexV s 0) (hc : s[i]? = some c) (hd : 0 ≤ digitV c.toNat) : hexV (s.drop (i + 1)) (16 * n + (digitV c.toNat).toNat) = hexV s 0 := by
  rw [drop_some hc, hexV, if_neg (by omega)] at hi
  exact hi
theorem hexV_end {s : List UInt8} {i n : Nat} (hi : hexV (s.drop i) n = hexV s 0) (h : s.length ≤ i) : hexV s 0 = some n := by
  rw [List.drop_eq_nil_of_le h, hexV] at hi; exact hi.symm
theorem hexF_big {s : List UInt8} {n : Nat} (h : hexV s 0 = some n) (hn : 1114111 < n) : hexF s = (0, 40) := by
  unfold hexF
  split
  · rfl
  · rw [h]; simp only; rw [if_pos hn]
theorem hexF_ok {s : List UInt8} {n : Nat} (h : hexV s 0 = some n) (hn : n ≤ 1114111) (h1 : 4 ≤ s.length) (h2 : s.length ≤ 6) (h3 : s.length ≤ 4 ∨ ∃ c, s[0]? = some c ∧ c.toNat ≠ 48) : hexF s = ((n : Int), 0) := by
  unfold hexF
  rw [if_neg, h]
  · simp only; rw [if_neg (by omega)]
  · intro hx
    rcases hx with hx | ⟨hx, h0⟩
    · omega
    · rcases h3 with h3 | ⟨c, hc, hne⟩
      · omega
      · rw [List.getD_eq_getElem?_getD, hc] at h0
        apply hne
        have : c = 48 := h0
        rw [this]; rfl
theorem pow16 {i n : Nat} (h : n < 16 ^ i) (hi : i ≤ 5) : n < 1048576 := by
  have := Nat.pow_le_pow_right (n := 16) (by omega) hi
  omega
theorem pow16s {i n b : Nat} (h : n < 16 ^ i) (hb : b < 16) : 16 * n + b < 16 ^ (i + 1) := by
  rw [Nat.pow_succ]; omega
theorem pow166 {i n : Nat} (h : n < 16 ^ i) (hi : i ≤ 6) : n < 16777216 := by
  have := Nat.pow_le_pow_right (n := 16) (by omega) hi
  omega
def mayF (lo hi : Int) : Bool := decide (0 ≤ lo ∧ lo ≤ hi ∧ hi ≤ 1114111)
theorem mayF_true {lo hi : Int} (h1 : 0 ≤ lo) (h2 : lo ≤ hi) (h3 : hi ≤ 1114111) : mayF lo hi = true := decide_eq_true ⟨h1, h2, h3⟩
theorem mayF_false {lo hi : Int} (h : ¬ (0 ≤ lo ∧ lo ≤ hi ∧ hi ≤ 1114111)) : mayF lo hi = false := decide_eq_false h
end Go.FK
namespace Go.FK
open Go Go.RowKit
def digInv (b : Int) (i : Nat) : Prop := ∀ (j : Nat) (c : UInt8), j < i → ([48, 49, 50, 51, 52, 53, 54, 55, 56, 57, 65, 66, 67, 68, 69, 70] : List UInt8)[j]? = some c → (c.toNat : Int) ≠ b
def hexDig (n i : Nat) : UInt8 := hexTab.getD (n / 16 ^ i % 16) 0
def cntD (n : Nat) : Nat := if n < 65536 then 4 else if n < 1048576 then 5 else 6
def digsD (n l : Nat) : List UInt8 := ((List.range l).map (hexDig n)).reverse
def showF (r : Int) : List UInt8 × Int := if r < 0 ∨ 1114111 < r then ([], 40) else (digsD r.toNat (cntD r.toNat), 0)
end Go.FK
namespace Go.FK
def showSpanF (lo hi : Int) : List UInt8 × Int := if mayF lo hi = false then ([], 41) else if lo = hi then ((showF lo).1, 0) else ((showF lo).1 ++ [46, 46] ++ (showF hi).1, 0)
def dotsN (s : List UInt8) : Nat → Nat → Option Nat
  | 0, _ => none
  | f + 1, i => if i + 1 < s.length then (if s.getD i 0 = 46 ∧ s.getD (i + 1) 0 = 46 then some i else dotsN s f (i + 1)) else none
def dotsFrom (s : List UInt8) (i : Nat) : Option Nat := dotsN s (s.length - i) i
theorem dotsFrom_step {s : List UInt8} {i : Nat} (h : i + 1 < s.length) : dotsFrom s i = if s.getD i 0 = 46 ∧ s.getD (i + 1) 0 = 46 then some i else dotsFrom s (i + 1) := by
  unfold dotsFrom
  rw [show s.length - i = (s.length - (i + 1)) + 1 by omega, dotsN, if_pos h]
theorem dotsFrom_end {s : List UInt8} {i : Nat} (h : s.length ≤ i + 1) : dotsFrom s i = none := by
  unfold dotsFrom
  cases hn : s.length - i with
  | zero => rfl
  | succ m => rw [dotsN, if_neg (by omega)]
def spanF (s : List UInt8) : Int × Int × Int :=
  match dotsFrom s 0 with
  | none => if (hexF s).2 ≠ 0 then (0, 0, (hexF s).2) else ((hexF s).1, (hexF s).1, 0)
  | some a => if (hexF (s.take a)).2 ≠ 0 ∨ (hexF (s.drop (a + 2))).2 ≠ 0 then (0, 0, 40) else if (hexF (s.drop (a + 2))).1 < (hexF (s.take a)).1 then (0, 0, 41) else ((hexF (s.take a)).1, (hexF (s.drop (a + 2))).1, 0)
def atInv (s : List UInt8) (i : Nat) (at_ : Int) : Prop := (at_ = -1 ∧ dotsFrom s i = dotsFrom s 0) ∨ (0 ≤ at_ ∧ at_.toNat + 1 < s.length ∧ dotsFrom s 0 = some at_.toNat)
end Go.FK
namespace Go.FK
open Go Go.RowKit
theorem span_none {s : List UInt8} (h : dotsFrom s 0 = none) : spanF s = if (hexF s).2 ≠ 0 then (0, 0, (hexF s).2) else ((hexF s).1, (hexF s).1, 0) := by unfold spanF; rw [h]
theorem span_some {s : List UInt8} {a : Nat} (h : dotsFrom s 0 = some a) : spanF s = if (hexF (s.take a)).2 ≠ 0 ∨ (hexF (s.drop (a + 2))).2 ≠ 0 then (0, 0, 40) else if (hexF (s.drop (a + 2))).1 < (hexF (s.take a)).1 then (0, 0, 41) else ((hexF (s.take a)).1, (hexF (s.drop (a + 2))).1, 0) := by unfold spanF; rw [h]
end Go.FK
namespace Go.FK
open Go Go.RowKit
def lowB (l : List UInt8) : List Int := l.reverse.map fun c => (c.toNat : Int)
end Go.FK
namespace Go.FK
open Go Go.RowKit
theorem getD_drop {s : List UInt8} {i : Nat} {b : UInt8} {l : List UInt8} (h : s.drop i = b :: l) : s.getD i 0 = b ∧ s.drop (i + 1) = l ∧ i < s.length := by
  have hi : i < s.length := by
    rcases Nat.lt_or_ge i s.length with h1 | h1
    · exact h1
    · rw [List.drop_eq_nil_of_le h1] at h; cases h
  rw [List.drop_eq_getElem_cons hi] at h
  injection h with h1 h2
  refine ⟨?_, h2, hi⟩
  rw [List.getD_eq_getElem?_getD, List.getElem?_eq_getElem hi]; exact h1
theorem dots_index (s : List UInt8) : ∀ (n i : Nat), s.length - i ≤ n → (dotsFrom s i = none ∧ Lib.index (s.drop i) [46, 46] = -1) ∨ (∃ a : Nat, i ≤ a ∧ dotsFrom s i = some a ∧ Lib.index (s.drop i) [46, 46] = (a : Int) - i) := by
  intro n
  induction n with
  | zero =>
    intro i hn
    left
    rw [List.drop_eq_nil_of_le (by omega)]
    exact ⟨dotsFrom_end (by omega), by decide⟩
  | succ n ih =>
    intro i hn
    cases hd : s.drop i with
    | nil =>
      left
      have := congrArg List.length hd
      simp at this
      exact ⟨dotsFrom_end (by omega), by decide⟩
    | cons b l =>
      obtain ⟨e1, e2, hi⟩ := getD_drop hd
      have ih' := ih (i + 1) (by omega)
      rw [e2] at ih'
      unfold Lib.index
      cases l with
      | nil =>
        left
        have : s.length ≤ i + 1 := by have := congrArg List.length e2; simp at this; omega
        refine ⟨dotsFrom_end this, ?_⟩
        rw [if_neg (by simp [List.isPrefixOf])]
        rfl
      | cons c l' =>
        obtain ⟨f1, f2, hi2⟩ := getD_drop e2
        rw [dotsFrom_step hi2, e1, f1]
        by_cases hbc : b = 46 ∧ c = 46
        · right
          obtain ⟨rfl, rfl⟩ := hbc
          refine ⟨i, Nat.le_refl _, by rw [if_pos ⟨rfl, rfl⟩], ?_⟩
          rw [if_pos (by simp [List.isPrefixOf])]; omega
        · rw [if_neg hbc, if_neg (by
            intro hp
            simp [List.isPrefixOf] at hp
            exact hbc ⟨hp.1.symm, hp.2.symm⟩)]
          rcases ih' with ⟨h1, h2⟩ | ⟨a, h1, h2, h3⟩
          · left
            exact ⟨h1, by rw [h2]; rfl⟩
          · right
            refine ⟨a, by omega, h2, ?_⟩
            rw [h3, if_neg (by simp; omega)]; omega
theorem cut_dots (s : List UInt8) : (dotsFrom s 0 = none ∧ Lib.cut s [46, 46] = (s, [], false)) ∨ (∃ a : Nat, dotsFrom s 0 = some a ∧ Lib.cut s [46, 46] = (s.take a, s.drop (a + 2), true)) := by
  have h := dots_index s _ 0 (Nat.le_refl _)
  rw [List.drop_zero] at h
  rcases h with ⟨h1, h2⟩ | ⟨a, _, h1, h2⟩
  · left
    refine ⟨h1, ?_⟩
    unfold Lib.cut; rw [h2, if_neg (by omega)]
  · right
    refine ⟨a, h1, ?_⟩
    unfold Lib.cut; rw [h2, if_pos (by omega)]
    have : ((a : Int) - (0 : Nat)).toNat = a := by omega
    rw [this]; rfl
theorem hexF_err (s : List UInt8) : (hexF s).2 = 0 ∨ (hexF s).2 = 40 := by
  unfold hexF
  split
  · exact .inr rfl
  · split
    · exact .inr rfl
    · split
      · exact .inr rfl
      · exact .inl rfl
theorem cut_len (s sep : List UInt8) : (Lib.cut s sep).1.length ≤ s.length ∧ (Lib.cut s sep).2.1.length ≤ s.length := by
  unfold Lib.cut
  split
  · simp only [List.length_take, List.length_drop]; omega
  · simp
theorem nt {b : Bool} (h : (!b) = true) : b = false := by cases b <;> simp_all
theorem nf {b : Bool} (h : (!b) = false) : ¬ b = false := by cases b <;> simp_all
theorem span_cut (s : List UInt8) : spanF s = if (hexF (Lib.cut s [46, 46]).1).2 ≠ 0 then (0, 0, (hexF (Lib.cut s [46, 46]).1).2) else if (Lib.cut s [46, 46]).2.2 = false then ((hexF (Lib.cut s [46, 46]).1).1, (hexF (Lib.cut s [46, 46]).1).1, 0) else
    if (hexF (Lib.cut s [46, 46]).2.1).2 ≠ 0 then (0, 0, (hexF (Lib.cut s [46, 46]).2.1).2) else if (hexF (Lib.cut s [46, 46]).2.1).1 < (hexF (Lib.cut s [46, 46]).1).1 then (0, 0, 41) else ((hexF (Lib.cut s [46, 46]).1).1, (hexF (Lib.cut s [46, 46]).2.1).1, 0) := by
  rcases cut_dots s with ⟨h1, h2⟩ | ⟨a, h1, h2⟩
  · rw [span_none h1, h2]
    simp only
    split <;> simp
  · rw [span_some h1, h2]
    simp only
    have e1 := hexF_err (s.take a)
    have e2 := hexF_err (s.drop (a + 2))
    rcases e1 with e1 | e1 <;> rcases e2 with e2 | e2 <;> simp [e1, e2]
end Go.FK
end

/- === PHex === -/
section
/- A stand-in's name: chapter 4's texts lean on PHex; behind chapter 3's texts it is PHexM. -/
end

/- === PGE === -/
section
/- PGE: the kinds of values of chapter 4's maps, in memory. My own text. -/
namespace Go.FK
open Go Go.RowKit
abbrev SpS := SpG (List UInt8)
abbrev SpI := SpG Int
abbrev SpB := SpG Bool
def encSpanS (x : SpS) : List Value := [.int .i32 x.1, .int .i32 x.2.1, S x.2.2]
def encSpanI (x : SpI) : List Value := [.int .i32 x.1, .int .i32 x.2.1, .int .i64 x.2.2]
def encSpanB (x : SpB) : List Value := [.int .i32 x.1, .int .i32 x.2.1, .bool x.2.2]
def eqS (a b : List UInt8) : Bool := decide (a = b)
def eqI (a b : Int) : Bool := decide (a = b)
def eqB (a b : Bool) : Bool := decide (a = b)
theorem eqI_law (a b : Int) : eqI a b = true ↔ a = b := decide_eq_true_iff
theorem eqI_y {a b : Int} (h : a = b) : eqI a b = true := decide_eq_true h
theorem eqI_n {a b : Int} (h : a ≠ b) : eqI a b = false := decide_eq_false h
theorem tnf {b : Bool} (h : b = true) : ¬ b = false := by rw [h]; decide
theorem gep_same {α : Type} {s vs : List α} {i j : Nat} (h : i = j) (hp : vs.length = 0) : s = List.take i s ++ vs ++ List.drop j s := by
  subst h
  obtain rfl : vs = [] := List.eq_nil_of_length_eq_zero hp
  simp
theorem gep_end {α : Type} {s vs : List α} {i : Nat} (h : i = s.length) : s ++ vs = List.take i s ++ vs ++ List.drop i s := by subst h; simp
theorem gep_tail {α : Type} {s vs : List α} {i j : Nat} (h : j = s.length) : List.take i s ++ vs = List.take i s ++ vs ++ List.drop j s := by subst h; simp
end Go.FK
end

/- === PFold === -/
section
/- PFold: maps laid over one another, maps turned, how many code points have a value. My own text. -/
set_option linter.unusedVariables false
namespace Go.FK
section
variable {V W : Type} {eq : V → V → Bool}
def layAll (eq : V → V → Bool) (m xs : List (SpG V)) : List (SpG V) := xs.foldl (fun m s => layF eq m s.1 s.2.1 s.2.2) m
def turnAll (eq : W → W → Bool) (f : V → W) (xs : List (SpG V)) : List (SpG W) := xs.foldl (fun m s => layF eq m s.1 s.2.1 (f s.2.2)) []
theorem layAll_snoc (m xs : List (SpG V)) (s : SpG V) : layAll eq m (xs ++ [s]) = layF eq (layAll eq m xs) s.1 s.2.1 s.2.2 := by unfold layAll; rw [List.foldl_append]; rfl
structure MapOk (eq : V → V → Bool) (xs : List (SpG V)) : Prop where
  rise : RiseG 0 xs
  can : CanG eq none xs
theorem MapOk.nil : MapOk eq [] := ⟨trivial, trivial⟩
theorem MapOk.lay (hE : ∀ a b, eq a b = true ↔ a = b) {xs : List (SpG V)} (h : MapOk eq xs) (lo hi : Int) (v : V) : MapOk eq (layF eq xs lo hi v) := ⟨layF_rise h.rise, layF_can hE h.rise h.can⟩
theorem MapOk.put (hE : ∀ a b, eq a b = true ↔ a = b) {xs : List (SpG V)} (h : MapOk eq xs) (lo hi : Int) (v : V) : MapOk eq (putF eq xs lo hi v) := ⟨putF_rise h.rise, putF_can hE h.rise h.can⟩
theorem MapOk.cut {xs : List (SpG V)} (h : MapOk eq xs) (lo hi : Int) : MapOk eq (cutM xs lo hi) := ⟨cutF_rise h.rise, cutF_can h.rise h.can⟩
theorem layF_val (hE : ∀ a b, eq a b = true ↔ a = b) {xs : List (SpG V)} (h : RiseG 0 xs) {lo hi : Int} (hm : mayG lo hi = true) (v : V) (x : Int) : valG (layF eq xs lo hi v) x = if lo ≤ x ∧ x ≤ hi then some v else valG xs x := by
  unfold layF; rw [if_neg (by rw [hm]; decide)]; exact layG_val hE h hm x
theorem foldLay {eq : W → W → Bool} (hE : ∀ a b, eq a b = true ↔ a = b) (f : V → W) : ∀ (xs : List (SpG V)) (b : Int) (m : List (SpG W)), 0 ≤ b → RiseG b xs → MapOk eq m →
    MapOk eq (xs.foldl (fun m s => layF eq m s.1 s.2.1 (f s.2.2)) m) ∧ ∀ x, valG (xs.foldl (fun m s => layF eq m s.1 s.2.1 (f s.2.2)) m) x = ((valG xs x).map f).or (valG m x)
  | [], b, m, _, _, hm => ⟨hm, fun x => by simp [valG_nil]⟩
  | s :: l, b, m, hb, h, hm => by
    obtain ⟨h1, h2, h3, h4⟩ := h
    have hmay : mayG s.1 s.2.1 = true := decide_eq_true ⟨by omega, h2, h3⟩
    have ih := foldLay hE f l (s.2.1 + 1) (layF eq m s.1 s.2.1 (f s.2.2)) (by omega) h4 (hm.lay hE _ _ _)
    refine ⟨ih.1, fun x => ?_⟩
    rw [List.foldl_cons, ih.2 x, layF_val hE hm.rise hmay]
    by_cases hx : s.1 ≤ x ∧ x ≤ s.2.1
    · rw [if_pos hx, valG_yes hx, h4.low (by omega)]; rfl
    · rw [if_neg hx, valG_no (by omega)]
theorem layAll_ok (hE : ∀ a b, eq a b = true ↔ a = b) {xs m : List (SpG V)} (h : RiseG 0 xs) (hm : MapOk eq m) : MapOk eq (layAll eq m xs) ∧ ∀ x, valG (layAll eq m xs) x = (valG xs x).or (valG m x) := by
  have := foldLay hE id xs 0 m (Int.le_refl _) h hm
  refine ⟨this.1, fun x => ?_⟩
  have h2 := this.2 x
  rw [Option.map_id] at h2
  exact h2
theorem MapOk.one (hE : ∀ a b, eq a b = true ↔ a = b) {l m : List (SpG V)} (hl : MapOk eq l) (hm : MapOk eq m) (h : ∀ x, valG l x = valG m x) : l = m := one_form eq hE hl.rise hm.rise hl.can hm.can h
def overF (eq : V → V → Bool) (a b : List (SpG V)) : List (SpG V) := layAll eq (layAll eq [] a) b
def cntB (P : Int → Bool) (b : Int) : Nat → Int
  | 0 => 0
  | n + 1 => (if P b = true then 1 else 0) + cntB P (b + 1) n
theorem mem_val {xs : List (SpG V)} {b : Int} (h : RiseG b xs) {s : SpG V} (hs : s ∈ xs) {x : Int} (hx : s.1 ≤ x ∧ x ≤ s.2.1) : valG xs x = some s.2.2 := by
  obtain ⟨A, B, rfl⟩ := List.append_of_mem hs
  have h2 := rise_app.1 h
  rw [valG_app, valG_yes hx]
  have : valG A x = none := by
    unfold valG
    rw [List.find?_eq_none.2 (fun t ht => by rw [inS_no (by have := (h2.2.2 t ht).1; omega)]; decide)]; rfl
  rw [this]; rfl
end
end Go.FK
end

/- === PGF === -/
section
/- PGF: putting into a map, and what a copy and a comparison of lists hold. My own text. -/
set_option linter.unusedVariables false
namespace Go.FK
open Go Go.RowKit
section
variable {V : Type} {xs : List (SpG V)} {lo hi : Int} {v z : V} {eq : V → V → Bool}
theorem put_badG (h : mayG lo hi = false) : 41 = putE xs lo hi ∧ xs = putF eq xs lo hi v := by unfold putE putF; rw [if_pos h, if_pos h]; exact ⟨rfl, rfl⟩
theorem met_some (h : (metV z (metG xs lo hi)).2.2.2 = true) : (metG xs lo hi).isSome = true := by
  cases hm : metG xs lo hi with
  | none => rw [hm] at h; exact absurd h (by simp [metV])
  | some s => rfl
theorem met_noneV (h : (metV z (metG xs lo hi)).2.2.2 = false) : metG xs lo hi = none := by
  cases hm : metG xs lo hi with
  | none => rfl
  | some s => rw [hm] at h; exact absurd h (by simp [metV])
theorem put_metG (hm : mayG lo hi = true) (h : (metV z (metG xs lo hi)).2.2.2 = true) : 42 = putE xs lo hi ∧ xs = putF eq xs lo hi v := by
  unfold putE putF; rw [if_neg (tnf hm), if_neg (tnf hm), if_pos (met_some h), if_pos (met_some h)]; exact ⟨rfl, rfl⟩
theorem put_okG (hm : mayG lo hi = true) (h : (metV z (metG xs lo hi)).2.2.2 = false) : layE lo hi = putE xs lo hi ∧ layF eq xs lo hi v = putF eq xs lo hi v := by
  have h2 := met_noneV h
  unfold putE putF layE layF
  rw [h2, if_neg (tnf hm), if_neg (tnf hm), if_neg (tnf hm), if_neg (tnf hm)]; exact ⟨rfl, rfl⟩
end
section
variable {α : Type} {a b xs pre : List α} {i : Nat} {x y : α}
theorem tk_pre (h : xs[i]? = some x) : xs.take i ++ [x] <+: xs := by
  have : xs.take i ++ [x] = xs.take (i + 1) := by rw [List.take_add_one, h]; rfl
  rw [this]; exact List.take_prefix _ _
theorem tk_snoc (h : xs[i]? = some x) : xs.take i ++ [x] = xs.take (i + 1) := by rw [List.take_add_one, h]; rfl
theorem tk_one (h : pre ++ [x] <+: xs) : xs[pre.length]? = some x := by
  obtain ⟨t, rfl⟩ := h
  rw [List.append_assoc, List.getElem?_append_right (Nat.le_refl _), Nat.sub_self]; rfl
theorem tk_lt (h : pre ++ [x] <+: xs) : pre.length < xs.length := (List.getElem?_eq_some_iff.1 (tk_one h)).1
end
theorem RiseG.pre {V : Type} {xs pre : List (SpG V)} {x : SpG V} (hr : RiseG 0 xs) (h : pre ++ [x] <+: xs) : 0 ≤ x.1 ∧ x.1 ≤ x.2.1 ∧ x.2.1 ≤ 1114111 := hr.at (tk_one h)
end Go.FK
end

/- === PWordM === -/
section
/- PWords: the plain functions of chapter 05 (words): no program in sight. -/
namespace Go.FK
open Go
def blankB (r : Int) : Bool := r == 9 || r == 11 || r == 12 || r == 32 || r == 133 || r == 160 || r == 5760 || r == 8232 || r == 8233 || r == 8239 || r == 8287 || r == 12288 || (decide (8192 ≤ r) && decide (r ≤ 8202))
def runesN (s : List UInt8) : Nat → Nat → List Int
  | 0, _ => []
  | n + 1, pos => if pos < s.length then ((dec s pos).1 : Int) :: runesN s n (pos + (dec s pos).2) else []
theorem runesN_end {s : List UInt8} : ∀ {n pos : Nat}, s.length ≤ pos → runesN s n pos = []
  | 0, _, _ => rfl
  | n + 1, pos, h => by rw [runesN, if_neg (by omega)]
theorem runesN_fuel {s : List UInt8} : ∀ (n m pos : Nat), s.length - pos ≤ n → s.length - pos ≤ m → runesN s n pos = runesN s m pos := by
  intro n
  induction n with
  | zero => intro m pos h _; rw [runesN_end (by omega), runesN_end (by omega)]
  | succ n ih =>
    intro m pos hn hm
    by_cases h : pos < s.length
    · cases m with
      | zero => omega
      | succ m =>
        have := dec_pos s pos
        rw [runesN, runesN, if_pos h, if_pos h, ih m _ (by omega) (by omega)]
    · rw [runesN_end (by omega), runesN_end (by omega)]
def runesFrom (s : List UInt8) (pos : Nat) : List Int := runesN s (s.length - pos) pos
theorem runesFrom_step {s : List UInt8} {pos : Nat} (h : pos < s.length) : runesFrom s pos = ((dec s pos).1 : Int) :: runesFrom s (pos + (dec s pos).2) := by
  have := dec_pos s pos
  unfold runesFrom
  rw [runesN_fuel (s.length - pos) (s.length - pos + 1) pos (by omega) (by omega), runesN, if_pos h]
  rw [runesN_fuel (s.length - pos) (s.length - (pos + (dec s pos).2)) _ (by omega) (by omega)]
theorem runesFrom_end {s : List UInt8} {pos : Nat} (h : s.length ≤ pos) : runesFrom s pos = [] := runesN_end h
def wordsN (s : List UInt8) : Nat → Nat → Int → List (Int × List UInt8)
  | 0, _, fr => if 0 ≤ fr then [(fr, s.drop fr.toNat)] else []
  | n + 1, pos, fr =>
    if pos < s.length then
      if blankB (dec s pos).1 = true then
        if 0 ≤ fr then (fr, (s.take pos).drop fr.toNat) :: wordsN s n (pos + (dec s pos).2) (-1) else wordsN s n (pos + (dec s pos).2) fr
      else if fr < 0 then wordsN s n (pos + (dec s pos).2) pos else wordsN s n (pos + (dec s pos).2) fr
    else if 0 ≤ fr then [(fr, s.drop fr.toNat)] else []
def wordsFrom (s : List UInt8) (pos : Nat) (fr : Int) : List (Int × List UInt8) := wordsN s (s.length - pos) pos fr
def wordsOf (s : List UInt8) : List (Int × List UInt8) := wordsFrom s 0 (-1)
def longN (b : Int) : Nat := if b < 128 then 1 else if b < 192 ∨ 247 < b then 0 else if b < 224 then 2 else if b < 240 then 3 else 4
def scalarB (r : Int) : Bool := decide (0 ≤ r) && decide (r ≤ 1114111) && (decide (r < 55296) || decide (57343 < r))
def widthN (r : Int) : Nat := if scalarB r = true then if r < 128 then 1 else if r < 2048 then 2 else if r < 65536 then 3 else 4 else 0
def bitsT : List Nat := [0, 127, 31, 15, 7]
def leastT : List Nat := [0, 0, 128, 2048, 65536]
def atN (s : List UInt8) (p : Nat) : Nat → Nat → Nat → Nat × Nat
  | 0, _, x => (0, x)
  | f + 1, i, x => match s[p + i]? with
    | none => (11, 0)
    | some b => if b.toNat < 128 ∨ 191 < b.toNat then (12, 0) else atN s p f (i + 1) (x * 64 + b.toNat - 128)
def finF (n : Nat) (r : Nat × Nat) : Nat × Int × Int :=
  if r.1 ≠ 0 then (1, 65533, r.1) else if r.2 < leastT.getD n 0 then (1, 65533, 13) else if 55296 ≤ r.2 ∧ r.2 ≤ 57343 then (1, 65533, 14) else if 1114111 < r.2 then (1, 65533, 15) else (n, r.2, 0)
def atG (s : List UInt8) (p n i x : Nat) : Nat × Int × Int := finF n (atN s p (n - i) i x)
def atF (s : List UInt8) (p : Nat) : Nat × Int × Int :=
  let c := (s.getD p 0).toNat
  if longN c = 0 then (1, 65533, 10) else atG s p (longN c) 1 (c &&& bitsT.getD (longN c) 0)
def atH (s : List UInt8) (p i x : Nat) : Nat × Int × Int := atG s p (longN (((s.getD p 0).toNat : Nat) : Int)) i x
def encSpot (x : Nat × Nat × Int × Int) : List Value := [.int .i64 (x.1 : Int), .int .i64 (x.2.1 : Int), .int .i32 x.2.2.1, .int .i64 x.2.2.2]
def spotsN (s : List UInt8) : Nat → Nat → List (Nat × Nat × Int × Int)
  | 0, _ => []
  | f + 1, p => if p < s.length then (p, (atF s p).1, (atF s p).2.1, (atF s p).2.2) :: spotsN s f (p + (atF s p).1) else []
def spotsFrom (s : List UInt8) (p : Nat) : List (Nat × Nat × Int × Int) := spotsN s (s.length - p) p
def rrunes (s : List UInt8) : List Int := (spotsFrom s 0).map fun x => x.2.2.1
def dropW (r : Int) : Bool := blankB r || r == 95 || r == 45
def lowerI (r : Int) : Int := if 65 ≤ r ∧ r ≤ 90 then r + 32 else r
def looseL (l : List Int) : List Int := (l.filter (fun r => !dropW r)).map lowerI
theorem looseL_cons (r : Int) (l : List Int) : looseL (r :: l) = if dropW r then looseL l else lowerI r :: looseL l := by
  cases h : dropW r <;> simp [looseL, h]
def looseS (s : List UInt8) : List UInt8 := encL (looseL (runesFrom s 0))
def alikeB (a b : List UInt8) : Bool := decide (looseS a = looseS b)
def shortTab : List (List UInt8) := [[], [76], [82], [65, 76], [69, 78], [69, 83], [69, 84], [65, 78], [67, 83], [78, 83, 77], [66, 78], [66], [83], [87, 83], [79, 78], [76, 82, 69], [76, 82, 79], [82, 76, 69], [82, 76, 79], [80, 68, 70], [76, 82, 73], [82, 76, 73], [70, 83, 73], [80, 68, 73]]
def longTab : List (List UInt8) := [[], [76, 101, 102, 116, 95, 84, 111, 95, 82, 105, 103, 104, 116], [82, 105, 103, 104, 116, 95, 84, 111, 95, 76, 101, 102, 116], [65, 114, 97, 98, 105, 99, 95, 76, 101, 116, 116, 101, 114], [69, 117, 114, 111, 112, 101, 97, 110, 95, 78, 117, 109, 98, 101, 114], [69, 117, 114, 111, 112, 101, 97, 110, 95, 83, 101, 112, 97, 114, 97, 116, 111, 114], [69, 117, 114, 111, 112, 101, 97, 110, 95, 84, 101, 114, 109, 105, 110, 97, 116, 111, 114], [65, 114, 97, 98, 105, 99, 95, 78, 117, 109, 98, 101, 114], [67, 111, 109, 109, 111, 110, 95, 83, 101, 112, 97, 114, 97, 116, 111, 114], [78, 111, 110, 115, 112, 97, 99, 105, 110, 103, 95, 77, 97, 114, 107], [66, 111, 117, 110, 100, 97, 114, 121, 95, 78, 101, 117, 116, 114, 97, 108], [80, 97, 114, 97, 103, 114, 97, 112, 104, 95, 83, 101, 112, 97, 114, 97, 116, 111, 114], [83, 101, 103, 109, 101, 110, 116, 95, 83, 101, 112, 97, 114, 97, 116, 111, 114], [87, 104, 105, 116, 101, 95, 83, 112, 97, 99, 101], [79, 116, 104, 101, 114, 95, 78, 101, 117, 116, 114, 97, 108], [76, 101, 102, 116, 95, 84, 111, 95, 82, 105, 103, 104, 116, 95, 69, 109, 98, 101, 100, 100, 105, 110, 103], [76, 101, 102, 116, 95, 84, 111, 95, 82, 105, 103, 104, 116, 95, 79, 118, 101, 114, 114, 105, 100, 101], [82, 105, 103, 104, 116, 95, 84, 111, 95, 76, 101, 102, 116, 95, 69, 109, 98, 101, 100, 100, 105, 110, 103], [82, 105, 103, 104, 116, 95, 84, 111, 95, 76, 101, 102, 116, 95, 79, 118, 101, 114, 114, 105, 100, 101], [80, 111, 112, 95, 68, 105, 114, 101, 99, 116, 105, 111, 110, 97, 108, 95, 70, 111, 114, 109, 97, 116], [76, 101, 102, 116, 95, 84, 111, 95, 82, 105, 103, 104, 116, 95, 73, 115, 111, 108, 97, 116, 101], [82, 105, 103, 104, 116, 95, 84, 111, 95, 76, 101, 102, 116, 95, 73, 115, 111, 108, 97, 116, 101], [70, 105, 114, 115, 116, 95, 83, 116, 114, 111, 110, 103, 95, 73, 115, 111, 108, 97, 116, 101], [80, 111, 112, 95, 68, 105, 114, 101, 99, 116, 105, 111, 110, 97, 108, 95, 73, 115, 111, 108, 97, 116, 101]]
def shortS (c : Int) : List UInt8 := if 1 ≤ c ∧ c ≤ 23 then shortTab.getD c.toNat [] else []
def longS (c : Int) : List UInt8 := if 1 ≤ c ∧ c ≤ 23 then longTab.getD c.toNat [] else []
def shortF (c : Int) : List UInt8 := if 15 ≤ c then shortS c else []
def longF (c : Int) : List UInt8 := if 15 ≤ c then longS c else []
theorem shortF_eq {c : Int} (h : c < 1 ∨ 15 ≤ c) : shortF c = shortS c := by
  unfold shortF
  split
  · rfl
  · unfold shortS; rw [if_neg (by omega)]
theorem longF_eq {c : Int} (h : c < 1 ∨ 15 ≤ c) : longF c = longS c := by
  unfold longF
  split
  · rfl
  · unfold longS; rw [if_neg (by omega)]
theorem shortF_none {c : Int} (h : c < 15 ∨ 23 < c) : shortF c = [] := by
  unfold shortF
  split
  · unfold shortS; rw [if_neg (by omega)]
  · rfl
theorem longF_none {c : Int} (h : c < 15 ∨ 23 < c) : longF c = [] := by
  unfold longF
  split
  · unfold longS; rw [if_neg (by omega)]
  · rfl
theorem tab_ne : ∀ c : Nat, c < 23 → shortTab.getD (c + 1) [] ≠ [] ∧ longTab.getD (c + 1) [] ≠ [] := by decide
theorem shortS_nil {c : Int} : shortS c = [] ↔ ¬ (1 ≤ c ∧ c ≤ 23) := by
  unfold shortS
  split
  · rename_i h
    have := (tab_ne (c.toNat - 1) (by omega)).1
    rw [show c.toNat - 1 + 1 = c.toNat by omega] at this
    exact ⟨fun e => absurd e this, fun e => absurd h e⟩
  · rename_i h; exact ⟨fun _ => h, fun _ => rfl⟩
theorem tab_len : ∀ c : Nat, c < 23 → (shortTab.getD (c + 1) []).length ≤ 30 ∧ (longTab.getD (c + 1) []).length ≤ 30 := by decide
theorem shortS_len (c : Int) : (shortS c).length ≤ 30 := by
  unfold shortS
  split
  · have := (tab_len (c.toNat - 1) (by omega)).1
    rwa [show c.toNat - 1 + 1 = c.toNat by omega] at this
  · simp
theorem longS_len (c : Int) : (longS c).length ≤ 30 := by
  unfold longS
  split
  · have := (tab_len (c.toNat - 1) (by omega)).2
    rwa [show c.toNat - 1 + 1 = c.toNat by omega] at this
  · simp
def toldE (c : Int) : Int := if 1 ≤ c ∧ c ≤ 23 then 0 else 2
def classN (name : List UInt8) : Nat → Int → Int × Int
  | 0, _ => (0, 50)
  | n + 1, c => if c ≤ 23 then if alikeB name (shortS c) = true then (c, 0) else if alikeB name (longS c) = true then (c, 0) else classN name n (c + 1) else (0, 50)
def classFrom (name : List UInt8) (c : Int) : Int × Int := classN name (24 - c).toNat c
theorem classFrom_step {name : List UInt8} {c : Int} (h : c ≤ 23) : classFrom name c = if alikeB name (shortS c) = true then (c, 0) else if alikeB name (longS c) = true then (c, 0) else classFrom name (c + 1) := by
  unfold classFrom
  obtain ⟨n, hn⟩ : ∃ n, (24 - c).toNat = n + 1 := ⟨(24 - c).toNat - 1, by omega⟩
  rw [hn, classN, if_pos h, show (24 - (c + 1)).toNat = n by omega]
theorem classFrom_end {name : List UInt8} {c : Int} (h : 23 < c) : classFrom name c = (0, 50) := by
  unfold classFrom
  rw [show (24 - c).toNat = 0 by omega]; rfl
def classF (name : List UInt8) : Int × Int := classFrom name 1
def cstep (st : List Int × Int × Int) (x : Int × List UInt8) : List Int × Int × Int :=
  if st.2.2 ≠ 0 then st else if (classF x.2).2 ≠ 0 then ([], x.1, (classF x.2).2) else (st.1 ++ [(classF x.2).1], 0, 0)
def classesF (s : List UInt8) : List Int × Int × Int := (wordsOf s).foldl cstep ([], 0, 0)
def letterS (c : Int) : List UInt8 := if c = 0 then [110] else if c = 1 then [111] else if c = 2 then [99] else []
def letterE (c : Int) : Int := if c = 0 ∨ c = 1 ∨ c = 2 then 0 else 2
def sideTab : List (List UInt8) := [[78, 111, 110, 101], [79, 112, 101, 110], [67, 108, 111, 115, 101]]
def sideN (name : List UInt8) : List (List UInt8) → Int → Int × Int
  | [], _ => (0, 51)
  | x :: l, c => if alikeB name (letterS c) = true then (c, 0) else if alikeB name x = true then (c, 0) else sideN name l (c + 1)
def sideFrom (name : List UInt8) (k : Nat) : Int × Int := sideN name (sideTab.drop k) k
def sideF (name : List UInt8) : Int × Int := sideFrom name 0
end Go.FK
end

/- === PLapart === -/
section
/- Plain laws of chapter 3: two texts, one behind the other: the lines of both, those of the second counted on. -/
set_option linter.unusedVariables false
namespace Go.FK
open Go Go.RowKit
def shP (n : Nat) (p : Nat × Nat × Nat) : Nat × Nat × Nat := (p.1 + n, p.2.1 + n, p.2.2 + n)
def shT (n : Nat) (x : Int × List UInt8) : Int × List UInt8 := (x.1 + n, x.2)
def shL (n : Nat) (x : LineD) : LineD := (x.1 + n, x.2)
section
variable {a b : List UInt8}
end
def shI (n i : Nat) (l : List LineD) : List LineD := (l.take i).map (shL n) ++ l.drop i
section
variable {F : Nat} {w w' : World} {B E k : Nat} {enc : LineV → List Value} {v u q : Value} {xs ys : List LineV}
end
end Go.FK
end

/- === FKai === -/
section
/- FKai: a call walked in place; an iterator that hands its yield on to another one. My own text. -/
namespace Go.FK
open Go Go.RowKit
section
variable {r : Option Nat} {P : Program} {n : Nat} {Q : Post} {s : Fm} {w : World} {ops : Array Oper} {rest : List Oper}
variable {d : Option Tmp} {ty : TypeId} {pos : String} {af : Array Edge}
theorem L_inline {op : Op} (f : FuncId) (args : List Value) (hrun : (execOp (s.ev n) ⟨d, op, ty, pos, af, none⟩).run P w = .ok (.enter f args.toArray) w) (hd : notDefer op = true)
    (hc : Calls P f args.toArray w (Ret fun v w' => L r P n ops Q rest (s.put d v) w')) : L r P n ops Q (⟨d, op, ty, pos, af, none⟩ :: rest) s w :=
  yD f args hrun hd hc (fun _ _ h => h)
end
theorem iter_tail {α : Type} {P : Program} {g : FuncId} {lb : List Value} {encs : α → List Value} {els : List α} {N N1 : World → Prop} {l : Nat} {J Jx : Nat → List α → World → Prop} {w w1 : World}
    (hI : Iter P g lb encs els N1) (h1 : N1 w1) (hle : w.heap.size ≤ w1.heap.size)
    (h0 : ∀ A, Below w1.heap.size w1 A → J A.heap.size [] A)
    (hJs : ∀ K pre A B, J K pre A → Ch (Iv w.heap.size K) A B → J K pre B)
    (hJxs : ∀ K pre A B, Jx K pre A → Ch (Iv w.heap.size K) A B → Jx K pre B)
    (hNb : ∀ A, Below w1.heap.size w1 A → N A)
    (hNc : ∀ K A B, N A → Ch (Iv w1.heap.size K) A B → N B)
    (hN1 : ∀ K A B, w1.heap.size ≤ K → N1 A → N B → Kp w.heap.size K A B → N1 B)
    (hY : ∀ K pre x A, J K pre A → N A → w.heap.size ≤ K → K ≤ A.heap.size → pre ++ [x] <+: els → YieldAt (Fw none) 0 P l (encs x).toArray A fun e A' =>
      (e = .returned (.bool true) ∧ J K (pre ++ [x]) A' ∧ Kp w.heap.size K A A' ∧ N A') ∨ (e = .returned (.bool false) ∧ Jx K (pre ++ [x]) A' ∧ Kp w.heap.size K A A')) :
    Calls P g (.func (.yield l) #[] #[] :: lb).toArray w1 (Ret fun _ w' => w1.heap.size ≤ w'.heap.size ∧ ((∃ K, J K els w') ∨ (∃ K pre x, pre ++ [x] <+: els ∧ Jx K (pre ++ [x]) w'))) := by
  have hiv : ∀ K k, Iv w1.heap.size K k → Iv w.heap.size K k := fun K k h => ⟨Nat.le_trans hle h.1, h.2⟩
  have h := hI l (fun K pre A => J K pre A ∧ N A) Jx w1 h1 (fun A hA => ⟨h0 A hA, hNb A hA⟩)
    (fun K pre A B h hc => ⟨hJs K pre A B h.1 (hc.mono (hiv K)), hNc K A B h.2 hc⟩)
    (fun K pre A B h hc => hJxs K pre A B h (hc.mono (hiv K)))
    (fun K pre x A hj hn1 hK hKA hp => by
      refine YieldAt.mono (hY K pre x A hj.1 hj.2 (Nat.le_trans hle hK) hKA hp) ?_
      rintro e A' (⟨he, h2, h3, h4⟩ | ⟨he, h2, h3⟩)
      · exact .inl ⟨he, ⟨h2, h4⟩, h3.narrow hle, hN1 K A A' hK hn1 h4 h3⟩
      · exact .inr ⟨he, h2, h3.narrow hle⟩)
  refine Calls.mono h ?_
  rintro e w' ⟨v, he, h2, h3⟩
  refine ⟨v, he, h2, ?_⟩
  rcases h3 with ⟨K, h3⟩ | h3
  · exact .inl ⟨K, h3.1⟩
  · exact .inr h3
theorem NRow.ch_mut {F B E k b : Nat} {w w' : World} {enc : LineV → List Value} {v vm : Value} {xs : List LineV} (h : NRow F w B E k enc v xs) (hc : Ch (Dm b vm) w w') (h1 : ¬ NOwn v xs b) (h2 : NAp v xs vm.ownBlock) : NRow F w' B E k enc v xs :=
  ⟨h.1.ch_mut hc (fun e => h1 (.inl e)) h2.1, fun x hx => (h.2 x hx).ch_mut hc (fun e => h1 (.inr ⟨x, hx, e⟩)) (h2.2 x hx)⟩
def encVal (v : Value) : List Value := [v]
theorem pick4 {α : Type} {a b c d e : α} {n : Nat} (h : ([a, b, c, d] : List α)[n]? = some e) : (n = 0 ∧ e = a) ∨ (n = 1 ∧ e = b) ∨ (n = 2 ∧ e = c) ∨ (n = 3 ∧ e = d) := by
  match n, h with
  | 0, h => exact .inl ⟨rfl, (Option.some.inj h).symm⟩
  | 1, h => exact .inr (.inl ⟨rfl, (Option.some.inj h).symm⟩)
  | 2, h => exact .inr (.inr (.inl ⟨rfl, (Option.some.inj h).symm⟩))
  | 3, h => exact .inr (.inr (.inr ⟨rfl, (Option.some.inj h).symm⟩))
end Go.FK
end

/- === PCls === -/
section
/- PCls: what a file of classes says: lines taken one by one, the first that is wrong; what the table tells. My own text. -/
set_option linter.unusedVariables false
namespace Go.FK
open Go Go.RowKit
def encSpanC (x : SpI) : List Value := [.int .i32 x.1, .int .i32 x.2.1, .int .u8 x.2.2]
abbrev eqC := eqI
theorem eqC_y {a b : Int} (h : a = b) : eqC a b = true := eqI_y h
theorem eqC_n {a b : Int} (h : a ≠ b) : eqC a b = false := eqI_n h
theorem hex_rng (s : List UInt8) : 0 ≤ (hexF s).1 ∧ (hexF s).1 ≤ 1114111 := by
  unfold hexF
  split
  · exact ⟨Int.le_refl _, by simp⟩
  · split
    · exact ⟨Int.le_refl _, by simp⟩
    · split
      · exact ⟨Int.le_refl _, by simp⟩
      · exact ⟨by simp only; omega, by simp only; omega⟩
theorem span_rng (s : List UInt8) : (0 ≤ (spanF s).1 ∧ (spanF s).1 ≤ 1114111) ∧ (0 ≤ (spanF s).2.1 ∧ (spanF s).2.1 ≤ 1114111) := by
  unfold spanF
  split
  · split
    · exact ⟨⟨Int.le_refl _, by simp⟩, Int.le_refl _, by simp⟩
    · exact ⟨hex_rng _, hex_rng _⟩
  · split
    · exact ⟨⟨Int.le_refl _, by simp⟩, Int.le_refl _, by simp⟩
    · split
      · exact ⟨⟨Int.le_refl _, by simp⟩, Int.le_refl _, by simp⟩
      · exact ⟨hex_rng _, hex_rng _⟩
def toldC (f : List (List UInt8)) (wrong : Int) : Int × Int × Int × Int :=
  if f.length ≠ 2 then (0, 0, 0, wrong) else
  if (spanF (f.getD 0 [])).2.2 ≠ 0 then (0, 0, 0, (spanF (f.getD 0 [])).2.2)
  else ((spanF (f.getD 0 [])).1, (spanF (f.getD 0 [])).2.1, (classF (f.getD 1 [])).1, (classF (f.getD 1 [])).2)
theorem getF_at {l : List (List UInt8)} {i : Nat} {x : List UInt8} (h : l[i]? = some x) : l.getD i [] = x := by rw [List.getD_eq_getElem?_getD, h]; rfl
section
variable {f : List (List UInt8)} {a b : List UInt8} {wrong : Int}
theorem tc_no (h : f.length ≠ 2) : toldC f wrong = (0, 0, 0, wrong) := by unfold toldC; rw [if_pos h]
theorem tc_span (h : f.length = 2) (ha : f[0]? = some a) (h2 : (spanF a).2.2 ≠ 0) : toldC f wrong = (0, 0, 0, (spanF a).2.2) := by
  unfold toldC; rw [if_neg (by omega), getF_at ha, if_pos h2]
theorem tc_ok (h : f.length = 2) (ha : f[0]? = some a) (hb : f[1]? = some b) (h2 : (spanF a).2.2 = 0) : toldC f wrong = ((spanF a).1, (spanF a).2.1, (classF b).1, (classF b).2) := by
  unfold toldC; rw [if_neg (by omega), getF_at ha, getF_at hb, if_neg (by omega)]
theorem tc_rng (f : List (List UInt8)) (wrong : Int) : (0 ≤ (toldC f wrong).1 ∧ (toldC f wrong).1 ≤ 1114111) ∧ (0 ≤ (toldC f wrong).2.1 ∧ (toldC f wrong).2.1 ≤ 1114111) := by
  unfold toldC
  split
  · exact ⟨⟨Int.le_refl _, by simp⟩, Int.le_refl _, by simp⟩
  · split
    · exact ⟨⟨Int.le_refl _, by simp⟩, Int.le_refl _, by simp⟩
    · exact span_rng _
end
abbrev TabC := List SpI × List SpI × List SpI
def stepC (t : TabC) (no k : Int) (f : List (List UInt8)) : TabC × Int :=
  if k = 1 then
    if (toldC f 70).2.2.2 ≠ 0 then (t, (toldC f 70).2.2.2)
    else if putE t.2.1 (toldC f 70).1 (toldC f 70).2.1 ≠ 0 then (t, putE t.2.1 (toldC f 70).1 (toldC f 70).2.1)
    else ((putF eqI t.1 (toldC f 70).1 (toldC f 70).2.1 (toldC f 70).2.2.1, putF eqI t.2.1 (toldC f 70).1 (toldC f 70).2.1 no, t.2.2), putE t.1 (toldC f 70).1 (toldC f 70).2.1)
  else if k = 2 then (t, 33)
  else if k = 3 then
    if (toldC f 71).2.2.2 ≠ 0 then (t, (toldC f 71).2.2.2)
    else ((t.1, t.2.1, t.2.2 ++ [((toldC f 71).1, (toldC f 71).2.1, (toldC f 71).2.2.1)]), 0)
  else (t, 0)
def stepL (t : TabC) (x : LineD) : TabC × Int := stepC t x.1 x.2.1 x.2.2.2.1
def goC : TabC → List LineD → TabC × Int × Int
  | t, [] => (t, 0, 0)
  | t, x :: l => if (stepL t x).2 ≠ 0 then (t, x.1, (stepL t x).2) else goC (stepL t x).1 l
def clsF (s : List UInt8) : TabC × Int × Int :=
  if (badL (toldF s)).2 ≠ 0 then (([], [], []), (badL (toldF s)).1, (badL (toldF s)).2) else goC ([], [], []) (linesF (toldF s))
def wholeF (t : TabC) : List SpI := layAll eqI (layAll eqI (layF eqI [] 0 1114111 1) t.2.2) t.1
theorem cls_bad {s : List UInt8} (h : (badL (toldF s)).2 ≠ 0) : clsF s = (([], [], []), (badL (toldF s)).1, (badL (toldF s)).2) := by unfold clsF; rw [if_pos h]
theorem cls_ok1 {s : List UInt8} (h : (clsF s).2.2 = 0) : (badL (toldF s)).2 = 0 := by
  cases hq : decide ((badL (toldF s)).2 = 0) with
  | true => exact of_decide_eq_true hq
  | false => rw [cls_bad (of_decide_eq_false hq)] at h; exact h
def invC (s : List UInt8) (xs : List LineV) (k : Nat) (t : TabC) : Prop := (badL (toldF s)).2 = 0 ∧ goC t ((xs.drop k).map stripL) = goC ([], [], []) (linesF (toldF s))
theorem drop_line {α : Type} {l : List α} {i : Nat} {x : α} (h : l[i]? = some x) : l.drop i = x :: l.drop (i + 1) := by
  obtain ⟨h1, h2⟩ := List.getElem?_eq_some_iff.1 h
  rw [List.drop_eq_getElem_cons h1, h2]
section
variable {s : List UInt8} {xs : List LineV} {k : Nat} {t t' : TabC} {x : LineV} {no kd e : Int} {f : List (List UInt8)}
theorem invC_zero (hb : (badL (toldF s)).2 = 0) (h : xs.map stripL = linesF (toldF s)) : invC s xs 0 ([], [], []) := ⟨hb, by rw [List.drop_zero, h]⟩
theorem invC_on (h : invC s xs k t) (hx : xs[k]? = some x) (hs : stepC t x.1 x.2.1 x.fs = (t', 0)) : invC s xs (k + 1) t' := by
  refine ⟨h.1, ?_⟩
  rw [← h.2, drop_line hx, List.map_cons, goC, if_neg, show stepL t (stripL x) = (t', 0) from hs]
  rw [show stepL t (stripL x) = (t', 0) from hs]; simp
theorem invC_bad (h : invC s xs k t) (hx : xs[k]? = some x) (hs : (stepC t x.1 x.2.1 x.fs).2 = e) (he : e ≠ 0) : clsF s = (t, x.1, e) := by
  unfold clsF
  have h2 := h.2
  rw [drop_line hx, List.map_cons, goC, if_pos (by show (stepC t x.1 x.2.1 x.fs).2 ≠ 0; rw [hs]; exact he)] at h2
  rw [if_neg (by rw [h.1]; decide), ← h2, ← hs]; rfl
theorem invC_end (h : invC s xs k t) (hk : xs.length ≤ k) : clsF s = (t, 0, 0) := by
  unfold clsF
  have h2 := h.2
  rw [List.drop_eq_nil_of_le hk] at h2
  rw [if_neg (by rw [h.1]; decide), ← h2]; rfl
theorem st_data (hk : kd = 1) (h1 : (toldC f 70).2.2.2 = 0) (h2 : putE t.2.1 (toldC f 70).1 (toldC f 70).2.1 = 0) (h3 : putE t.1 (toldC f 70).1 (toldC f 70).2.1 = 0) :
    stepC t no kd f = ((putF eqI t.1 (toldC f 70).1 (toldC f 70).2.1 (toldC f 70).2.2.1, putF eqI t.2.1 (toldC f 70).1 (toldC f 70).2.1 no, t.2.2), 0) := by
  unfold stepC; rw [if_pos hk, if_neg (by omega), if_neg (by omega), h3]
theorem st_data1 (hk : kd = 1) (h1 : (toldC f 70).2.2.2 ≠ 0) : (stepC t no kd f).2 = (toldC f 70).2.2.2 := by unfold stepC; rw [if_pos hk, if_pos h1]
theorem st_data2 (hk : kd = 1) (h1 : (toldC f 70).2.2.2 = 0) (h2 : putE t.2.1 (toldC f 70).1 (toldC f 70).2.1 ≠ 0) : (stepC t no kd f).2 = putE t.2.1 (toldC f 70).1 (toldC f 70).2.1 := by
  unfold stepC; rw [if_pos hk, if_neg (by omega), if_pos h2]
theorem st_data3 (hk : kd = 1) (h1 : (toldC f 70).2.2.2 = 0) (h2 : putE t.2.1 (toldC f 70).1 (toldC f 70).2.1 = 0) : (stepC t no kd f).2 = putE t.1 (toldC f 70).1 (toldC f 70).2.1 := by
  unfold stepC; rw [if_pos hk, if_neg (by omega), if_neg (by omega)]
theorem st_blank (hk : kd = 0) : stepC t no kd f = (t, 0) := by unfold stepC; rw [if_neg (by omega), if_neg (by omega), if_neg (by omega)]
theorem st_order (hk : kd = 2) : (stepC t no kd f).2 = 33 := by unfold stepC; rw [if_neg (by omega), if_pos hk]
theorem st_miss (hk : kd = 3) (h1 : (toldC f 71).2.2.2 = 0) : stepC t no kd f = ((t.1, t.2.1, t.2.2 ++ [((toldC f 71).1, (toldC f 71).2.1, (toldC f 71).2.2.1)]), 0) := by
  unfold stepC; rw [if_neg (by omega), if_neg (by omega), if_pos hk, if_neg (by omega)]
theorem st_miss1 (hk : kd = 3) (h1 : (toldC f 71).2.2.2 ≠ 0) : (stepC t no kd f).2 = (toldC f 71).2.2.2 := by
  unfold stepC; rw [if_neg (by omega), if_neg (by omega), if_pos hk, if_pos h1]
end
theorem step_ok (t : TabC) (x : LineD) (h1 : MapOk eqI t.1) (h2 : MapOk eqI t.2.1) : MapOk eqI (stepL t x).1.1 ∧ MapOk eqI (stepL t x).1.2.1 ∧ (stepL t x).1.2.2.length ≤ t.2.2.length + 1 := by
  unfold stepL stepC
  repeat' split
  all_goals first | exact ⟨h1, h2, by simp only; omega⟩ | exact ⟨h1.put eqI_law _ _ _, h2.put eqI_law _ _ _, by simp only; omega⟩ | exact ⟨h1, h2, by simp⟩
theorem go_ok : ∀ (l : List LineD) (t : TabC), MapOk eqI t.1 → MapOk eqI t.2.1 → MapOk eqI (goC t l).1.1 ∧ MapOk eqI (goC t l).1.2.1 ∧ (goC t l).1.2.2.length ≤ t.2.2.length + l.length
  | [], t, h1, h2 => ⟨h1, h2, Nat.le_add_right _ _⟩
  | x :: l, t, h1, h2 => by
    unfold goC
    split
    · exact ⟨h1, h2, Nat.le_add_right _ _⟩
    · have h3 := step_ok t x h1 h2
      have ih := go_ok l _ h3.1 h3.2.1
      exact ⟨ih.1, ih.2.1, by rw [List.length_cons]; have := ih.2.2; have := h3.2.2; omega⟩
theorem cls_ok (s : List UInt8) : MapOk eqI (clsF s).1.1 ∧ MapOk eqI (clsF s).1.2.1 ∧ (clsF s).1.2.2.length ≤ s.length + 1 := by
  unfold clsF
  split
  · exact ⟨MapOk.nil, MapOk.nil, Nat.zero_le _⟩
  · have h := go_ok (linesF (toldF s)) ([], [], []) MapOk.nil MapOk.nil
    refine ⟨h.1, h.2.1, ?_⟩
    have h2 : (linesF (toldF s)).length = (toldF s).length := List.length_map ..
    have h3 : (goC ([], [], []) (linesF (toldF s))).1.2.2.length ≤ 0 + (linesF (toldF s)).length := h.2.2
    have := told_len s
    omega
theorem layL_ok (l : List SpI) : ∀ (m : List SpI), MapOk eqI m → MapOk eqI (layAll eqI m l) := by
  unfold layAll
  induction l with
  | nil => intro m h; exact h
  | cons x l ih => intro m h; exact ih _ (h.lay eqI_law _ _ _)
theorem whole_ok (t : TabC) : MapOk eqI (wholeF t) := layL_ok _ _ (layL_ok _ _ (MapOk.nil.lay eqI_law _ _ _))
theorem lay_take {m l : List SpI} {i : Nat} {x : SpI} (h : l[i]? = some x) : layF eqI (layAll eqI m (l.take i)) x.1 x.2.1 x.2.2 = layAll eqI m (l.take (i + 1)) := by
  rw [← layAll_snoc, ← tk_snoc h]
def plainF (r : Int) : Int := if r < 0 ∨ 1114111 < r then 65533 else r
theorem plain_y {r : Int} (h : r < 0 ∨ 1114111 < r) : 65533 = plainF r := by unfold plainF; rw [if_pos h]
theorem plain_n {r : Int} (h1 : 0 ≤ r) (h2 : r ≤ 1114111) : r = plainF r := by unfold plainF; rw [if_neg (by omega)]
theorem scan_kind (no : Int) (s : List UInt8) : 0 ≤ (scanF no s).1.2.1 ∧ (scanF no s).1.2.1 ≤ 3 := by
  unfold scanF
  repeat' split
  all_goals exact ⟨by simp [zeroL], by simp [zeroL]⟩
theorem line_kind {l : List LineV} {d : List (Int × List UInt8)} (h : l.map stripL = linesF d) {k : Nat} {x : LineV} (hx : l[k]? = some x) : 0 ≤ x.2.1 ∧ x.2.1 ≤ 3 := by
  have h1 : (l.map stripL)[k]? = some (stripL x) := by rw [List.getElem?_map, hx]; rfl
  rw [h] at h1
  unfold linesF at h1
  rw [List.getElem?_map, Option.map_eq_some_iff] at h1
  obtain ⟨y, _, hy⟩ := h1
  have := scan_kind y.1 y.2
  rw [hy] at this
  exact this
theorem splF_el (b : UInt8) : ∀ (s : List UInt8), ∀ x ∈ splF b s, x.length ≤ s.length
  | [], x, h => by rw [splF] at h; rw [List.mem_singleton.1 h]; exact Nat.le_refl _
  | c :: l, x, h => by
    rw [splF] at h
    rw [List.length_cons]
    split at h
    · rcases List.mem_cons.1 h with rfl | h
      · exact Nat.zero_le _
      · have := splF_el b l x h; omega
    · obtain ⟨p, r, e⟩ := splF_ne b l
      have ih := splF_el b l
      rw [e] at h ih
      rcases List.mem_cons.1 h with rfl | h
      · have := ih p List.mem_cons_self
        rw [List.length_cons]; omega
      · have := ih x (List.mem_cons_of_mem _ h); omega
theorem fields_el {s x : List UInt8} (h : x ∈ fieldsF s) : x.length ≤ s.length := by
  unfold fieldsF at h
  split at h
  · cases h
  · obtain ⟨y, hy, rfl⟩ := List.mem_map.1 h
    exact Nat.le_trans (trm_len _) (splF_el 59 s y hy)
theorem cut_el {s x : List UInt8} (h : x ∈ (cutF s).1) : x.length ≤ s.length := Nat.le_trans (fields_el (show x ∈ fieldsF (Lib.cut s [35]).1 from h)) (cutl_len s [35]).1
theorem ord_len (s : List UInt8) : (ordF s).2.1.length ≤ s.length := by
  have h1 := (cutl_len ((headF s).drop 1) [58]).2
  have h2 := headF_len s
  rw [List.length_drop] at h1
  unfold ordF; omega
theorem scan_parts {no : Int} {s : List UInt8} (n : Nat) (hs : s.length ≤ n) : (∀ x ∈ (scanF no s).1.2.2.2.1, x.length ≤ n) ∧ (scanF no s).1.2.2.2.2.length ≤ n := by
  have h1 : (noteF s).length ≤ n := Nat.le_trans (noteF_len s) hs
  have h9 : ((noteF s).drop 9).length ≤ n := by rw [List.length_drop]; omega
  have z : (∀ x ∈ zeroL.2.2.2.1, x.length ≤ n) ∧ zeroL.2.2.2.2.length ≤ n := ⟨fun x hx => (by cases hx), Nat.zero_le _⟩
  unfold scanF
  by_cases c1 : (chkF s).2 ≠ 0
  · rw [if_pos c1]; exact z
  · rw [if_neg c1]
    by_cases c2 : headF s = []
    · rw [if_pos c2]
      by_cases c3 : hpB (noteF s) missT = true
      · rw [if_pos c3]; exact ⟨fun x hx => Nat.le_trans (cut_el hx) h9, Nat.le_trans (cutF_len _) h9⟩
      · rw [if_neg c3]; exact ⟨fun x hx => (by cases hx), h1⟩
    · rw [if_neg c2]
      by_cases c3 : hpB (headF s) [64] = true
      · rw [if_pos c3]
        by_cases c4 : (ordF s).2.2 = false ∨ nameF (ordF s).1 = false
        · rw [if_pos c4]; exact z
        · rw [if_neg c4]; exact ⟨fun x hx => Nat.le_trans (fields_el hx) (Nat.le_trans (ord_len s) hs), h1⟩
      · rw [if_neg c3]; exact ⟨fun x hx => Nat.le_trans (cut_el hx) hs, h1⟩
theorem scan_ok {s : List UInt8} {xs : List LineV} {k : Nat} {x : LineV} (hs : s.length ≤ 1073741823) (h : xs.map stripL = linesF (toldF s)) (hx : xs[k]? = some x) : (∀ y ∈ x.fs, y.length ≤ 1073741824) ∧ x.2.2.2.2.length ≤ 1073741824 ∧ x.fs.length ≤ 1073741824 := by
  have h1 : stripL x ∈ linesF (toldF s) := by rw [← h]; exact List.mem_map_of_mem (List.mem_of_getElem? hx)
  unfold linesF at h1
  obtain ⟨y, hy, e⟩ := List.mem_map.1 h1
  have h2 := scan_parts (no := y.1) (s := y.2) 1073741824 (by have := told_short hy; omega)
  rw [e] at h2
  exact ⟨h2.1, h2.2, fs_len h hs x (List.mem_of_getElem? hx)⟩
section
variable {s : List UInt8} {xs : List LineV} {k : Nat} {t : TabC} {x : LineV}
theorem cb_data1 (h : invC s xs k t) (hx : xs[k]? = some x) (hk : x.2.1 = 1) (h1 : (toldC x.fs 70).2.2.2 ≠ 0) : clsF s = (t, x.1, (toldC x.fs 70).2.2.2) := invC_bad h hx (st_data1 hk h1) h1
theorem cb_data2 (h : invC s xs k t) (hx : xs[k]? = some x) (hk : x.2.1 = 1) (h1 : (toldC x.fs 70).2.2.2 = 0) (h2 : putE t.2.1 (toldC x.fs 70).1 (toldC x.fs 70).2.1 ≠ 0) : clsF s = (t, x.1, putE t.2.1 (toldC x.fs 70).1 (toldC x.fs 70).2.1) := invC_bad h hx (st_data2 hk h1 h2) h2
theorem cb_data3 (h : invC s xs k t) (hx : xs[k]? = some x) (hk : x.2.1 = 1) (h1 : (toldC x.fs 70).2.2.2 = 0) (h2 : putE t.2.1 (toldC x.fs 70).1 (toldC x.fs 70).2.1 = 0) (h3 : putE t.1 (toldC x.fs 70).1 (toldC x.fs 70).2.1 ≠ 0) : clsF s = (t, x.1, putE t.1 (toldC x.fs 70).1 (toldC x.fs 70).2.1) := invC_bad h hx (st_data3 hk h1 h2) h3
theorem cb_order (h : invC s xs k t) (hx : xs[k]? = some x) (hk : x.2.1 = 2) : clsF s = (t, x.1, 33) := invC_bad h hx (st_order hk) (by decide)
theorem cb_miss (h : invC s xs k t) (hx : xs[k]? = some x) (hk : x.2.1 = 3) (h1 : (toldC x.fs 71).2.2.2 ≠ 0) : clsF s = (t, x.1, (toldC x.fs 71).2.2.2) := invC_bad h hx (st_miss1 hk h1) h1
end
theorem xR {s : List UInt8} {t : TabC} {n e : Int} (hok : (clsF s).2.2 = 0) (h : clsF s = (t, n, e)) (he : e ≠ 0) : False := he (by rw [h] at hok; exact hok)
def rngC (l : List SpI) : Prop := ∀ x ∈ l, (0 ≤ x.1 ∧ x.1 ≤ 1114111) ∧ (0 ≤ x.2.1 ∧ x.2.1 ≤ 1114111)
theorem rng_nil : rngC [] := fun x h => by cases h
theorem rng_snoc {l : List SpI} (h : rngC l) (f : List (List UInt8)) (wr c : Int) : rngC (l ++ [((toldC f wr).1, (toldC f wr).2.1, c)]) := fun x hx => by
  rcases List.mem_append.1 hx with hx | hx
  · exact h x hx
  · obtain rfl := List.mem_singleton.1 hx; exact tc_rng f wr
end Go.FK
end

/- === FKl === -/
section
/- FKl: a strings.Builder of the call's own, carried over the steps of a walk; its methods. My own text, over the kit's shelf. -/
set_option linter.unusedVariables false
set_option linter.unusedSimpArgs false
namespace Go.FK
open Go Go.RowKit
def Bld (T E B b : Nat) (l : List UInt8) (w : World) : Prop := Lib.IsBuilderF T E B b (Lib.byteCells l) w
theorem Bld.at {T E B b : Nat} {l : List UInt8} {w : World} (h : Bld T E B b l w) : B ≤ b ∧ ∃ p v, w.heap[b]? = some (.cells #[p, v] T (0, 0)) := by
  rcases h with ⟨hB, v, hb, _⟩ | ⟨hB, v, hb, _⟩
  · exact ⟨hB, _, v, hb⟩
  · exact ⟨hB, _, v, hb⟩
theorem Bld.of {T E B b : Nat} {w : World} (hb : w.heap[b]? = some (.cells [Value.pointer none, Value.slice none 0 0].toArray T (0, 0))) (hB : B ≤ b) : Bld T E B b [] w := by
  refine .inl ⟨hB, .slice none 0 0, hb, ?_, by simp [Value.ownBlock]⟩
  exact World.ownsRowF_of (World.ownsRow_nil _ _ _ _)
theorem Bld.lt {T E B b : Nat} {l : List UInt8} {w : World} (h : Bld T E B b l w) : b < w.heap.size := by
  obtain ⟨_, p, v, hb⟩ := h.at
  exact zK hb
theorem Bld.cast {T E B b : Nat} {l m : List UInt8} {w : World} (h : Bld T E B b l w) (e : l = m) : Bld T E B b m w := e ▸ h
theorem bldAt_same {T E B b : Nat} {p : Value} {bs : List Value} {w w' : World} (h : Lib.BuilderAtF T E B b p bs w) (hk : ∀ k : Nat, (∃ cs X fz, w.heap[k]? = some (.cells cs X fz) ∧ (X = T ∨ X = E)) → w'.heap[k]? = w.heap[k]?) : Lib.BuilderAtF T E B b p bs w' := by
  obtain ⟨hB, v, hb, hown, hne⟩ := h
  refine ⟨hB, v, (hk b ⟨_, _, _, hb, .inl rfl⟩).trans hb, ⟨hown.1, ?_⟩, hne⟩
  rcases hown.2 with hn | ⟨g, cap, cur, fz, hv, hbg, hg, rest⟩
  · exact .inl hn
  · exact .inr ⟨g, cap, cur, fz, hv, hbg, (hk g ⟨_, _, _, hg, .inr rfl⟩).trans hg, rest⟩
theorem Bld.same {T E B b : Nat} {l : List UInt8} {w w' : World} (h : Bld T E B b l w) (hk : ∀ k : Nat, (∃ cs X fz, w.heap[k]? = some (.cells cs X fz) ∧ (X = T ∨ X = E)) → w'.heap[k]? = w.heap[k]?) : Bld T E B b l w' :=
  h.elim (fun x => .inl (bldAt_same x hk)) (fun x => .inr (bldAt_same x hk))
theorem Bld.below {T E B b : Nat} {l : List UInt8} {w w' : World} (h : Bld T E B b l w) (hb : Below w.heap.size w w') : Bld T E B b l w' :=
  h.same fun k ⟨_, _, _, hk, _⟩ => hb.block k (Array.getElem?_eq_some_iff.1 hk).1
theorem Bld.wrote {T E B b k : Nat} {l : List UInt8} {w w' : World} {o o0 : Obj} (h : Bld T E B b l w) (hW : Wrote w w' k o) (hk : w.heap[k]? = some o0) (ho : ∀ cs X fz, o0 = .cells cs X fz → X ≠ T ∧ X ≠ E) : Bld T E B b l w' :=
  h.same fun j ⟨cs, X, fz, hj, hX⟩ => hW.other j fun e => by
    subst e
    rw [hk] at hj
    have := ho cs X fz (Option.some.inj hj)
    rcases hX with e1 | e1
    · exact this.1 e1
    · exact this.2 e1
theorem Bld.grown {α : Type} {T E B b B' E' k' : Nat} {l : List UInt8} {w w' : World} {enc : α → List Value} {v : Value} {xs : List α} (h : Bld T E B b l w) (hg : w.grownBy w' v.ownBlock) (hr : Row w B' E' k' enc v xs) (h1 : Nat.beq E' T = false) (h2 : Nat.beq E' E = false) : Bld T E B b l w' := by
  refine h.same fun j ⟨cs, X, fz, hj, hX⟩ => ?_
  refine hg.block j (zK hj) fun e => ?_
  rcases hr.2 with ⟨rfl, _⟩ | ⟨g, cap, cur, rfl, _, hh, _⟩
  · simp [Value.ownBlock] at e
  · simp [Value.ownBlock] at e
    subst e
    rw [hh] at hj
    have hj := Option.some.inj hj
    injection hj with _ e2 _
    subst e2
    rcases hX with rfl | rfl
    · simp at h1
    · simp at h2
end Go.FK
end

/- === FKi === -/
section
/- FKi: regions that draw their order, whose operations have guards. My own text. -/
namespace Go.FK
open Go Go.RowKit
section
variable {P : Program} {n : Nat} {Q : Post} {s : Fm} {w : World} {ops : Array Oper} {fuel : Nat} {listed : Array Bool}
end
section
variable {P : Program} {n : Nat} {Q : Post} {s : Fm} {w : World} {ops : Array Oper} {fuel : Nat} {listed : Array Bool}
def noG (o : Oper) : Oper := { o with guard := none }
end
section
variable {P : Program} {n : Nat} {Q : Post} {s : Fm} {w : World} {ops : Array Oper} {fuel : Nat} {listed : Array Bool}
end
section
variable {P : Program} {n : Nat} {Q : Post} {s : Fm} {w : World} {ops : Array Oper} {fuel : Nat} {listed : Array Bool} {C : World → Prop}
theorem wpIn_quiet {o : Oper} {a : Act} {K : Act → Prop} {K' : Act → World → Prop} {Q' : Exit → Act → World → Prop} (hne : ∀ c, o.op ≠ .defer c) (hw : C w) (h : ∀ a w', C w' → K a → K' a w') (hh : o.quiet P a C K) : o.wpIn (Fw none) 0 P a w K' Q' := by
  obtain ⟨v, h1, h2⟩ := hh
  have h3 := h1 w hw
  unfold Oper.quietAt at h3
  unfold Oper.wpIn
  refine ⟨fun _ _ => trivial, ?_⟩
  rw [Oper.semAt_eq _ _ _ hne]
  generalize (execOp a.eval o).run P w = r at *
  cases r with
  | ok m w' =>
    cases m <;> simp only [Oper.quietUpon] at h3 <;> simp only [Oper.uponIn]
    case value u =>
      obtain ⟨e1, e2⟩ := h3
      rw [e1, e2]
      exact h _ _ hw h2
    case skip =>
      obtain ⟨e1, e2⟩ := h3
      rw [e1, ← e2]
      exact h _ _ hw h2
    case enter f args =>
      obtain ⟨e1, hc⟩ := h3
      rw [e1]
      exact ⟨fun hx => by simp [Fw] at hx, CallsIn.mono (calls_fw.2 hc) fun e w'' ⟨he, hw''⟩ => by subst he; exact h _ _ hw'' h2⟩
  | halt x w' => simp only [Oper.quietUpon] at h3
theorem opIn_quiet {i : Nat} {a : Act} {K : Act → Prop} {K' : Act → World → Prop} {Q' : Exit → Act → World → Prop} (hd : noDefers ops = true) (hC : C w) (h : ∀ a w', C w' → K a → K' a w') (hh : qOp P ops C i K a) : wpOpIn (Fw none) 0 P ops Q' i K' a w := by
  unfold qOp at hh
  unfold wpOpIn
  cases ho : ops[i]? with
  | none => simp only [ho] at hh ⊢; exact h _ _ hC hh
  | some o =>
    simp only [ho] at hh ⊢
    have hne : ∀ c, o.op ≠ .defer c := notDefer_ne (List.all_eq_true.1 hd o (by
      have := Array.mem_of_getElem? ho
      simpa using this))
    split
    · rename_i hw; rw [if_pos hw] at hh; exact wpIn_quiet hne hC h hh
    · rename_i hw; rw [if_neg hw] at hh; exact ⟨fun _ _ => trivial, h _ _ hC hh⟩
end
section ops
variable {r : Option Nat} {P : Program} {n : Nat} {Q : Post} {s : Fm} {w : World} {ops : Array Oper} {rest : List Oper}
variable {d : Option Tmp} {ty : TypeId} {pos : String} {af : Array Edge}
end ops
end Go.FK
end

/- === FKab === -/
section
/- FKab: what the writing methods of strings.Builder do to memory: the pieces of their walks. My own text. -/
set_option linter.unusedVariables false
set_option linter.unusedSimpArgs false
namespace Go.FK
open Go Go.RowKit
theorem Rd.one {α : Type} {w : World} {enc : α → List Value} {v : Value} {xs : List α} (h : Rd w enc v xs) : v.oneCell' = true := by
  obtain ⟨a, c, rfl, _⟩ := h; rfl
section
variable {T E B b : Nat} {l m : List UInt8} {w w1 w2 w3 : World} {p v v2 : Value}
end
section ops
variable {r : Option Nat} {P : Program} {n : Nat} {Q : Post} {s : Fm} {w : World} {ops : Array Oper} {rest : List Oper}
variable {d : Option Tmp} {ty : TypeId} {pos : String} {af : Array Edge} {T U E B : Nat} {l : List UInt8} {v : Value}
end ops
end Go.FK
end

/- === FKak === -/
section
/- FKak: a strings.Builder as a struct with a row of bytes of its own: it may be written in rounds of ranges too. My own text. -/
set_option linter.unusedVariables false
set_option linter.unusedSimpArgs false
namespace Go.FK
open Go Go.RowKit
def encByt (c : UInt8) : List Value := [.int .u8 ((c.toNat : Nat) : Int)]
section ops
variable {r : Option Nat} {P : Program} {n : Nat} {Q : Post} {s : Fm} {w : World} {ops : Array Oper} {rest : List Oper}
variable {d : Option Tmp} {ty : TypeId} {pos : String} {af : Array Edge} {T U E B : Nat} {l : List UInt8} {v : Value}
end ops
section
variable {T E B b : Nat} {l : List UInt8} {w w1 : World} {p v : Value}
end
end Go.FK
end

/- === PCl2 === -/
section
/- PCl2: what a table of classes writes and tells; its classes are classes. My own text. -/
set_option linter.unusedVariables false
namespace Go.FK
open Go Go.RowKit
def missW : List UInt8 := [35, 32, 64, 109, 105, 115, 115, 105, 110, 103, 58, 32]
def mlC (x : SpI) : List UInt8 := (((missW ++ (showSpanF x.1 x.2.1).1) ++ [59, 32]) ++ longS x.2.2) ++ [10]
def nlC (x : SpI) : List UInt8 := ((((([] : List UInt8) ++ (showSpanF x.1 x.2.1).1) ++ [59, 32]) ++ shortS x.2.2)) ++ [10]
def writeC (mm am : List SpI) : List UInt8 := mm.flatMap mlC ++ am.flatMap nlC
def fewC {α : Type} (l : List α) (few : Int) : List α := if 0 ≤ few then l.take (few.toNat + 1) else l
section
variable {α : Type} {l pre acc a : List α} {few : Int} {x y : α} {i n : Nat}
theorem few_all (h : few < 0 ∨ (l.length : Int) ≤ few) : l = fewC l few := by
  unfold fewC; split
  · rw [List.take_of_length_le (by omega)]
  · rfl
theorem few_stop (hp : pre <+: l) (h0 : 0 ≤ few) (h : (pre.length : Int) = few + 1) : pre = fewC l few := by
  unfold fewC; rw [if_pos h0]
  obtain ⟨t, rfl⟩ := hp
  rw [show few.toNat + 1 = pre.length by omega, List.take_left]
theorem few_neg (l : List α) (h : few < 0) : fewC l few = l := by unfold fewC; rw [if_neg (by omega)]
end
section
variable {a l : List SpI} {few n : Int} {i : Nat} {x y : SpI}
end
def clsB (l : List SpI) : Prop := ∀ x ∈ l, 1 ≤ x.2.2 ∧ x.2.2 ≤ 23
theorem clsB_nil : clsB [] := fun x h => by cases h
theorem clsB_lay {l : List SpI} {lo hi v : Int} (h : clsB l) (hr : RiseG 0 l) (hv : 1 ≤ v ∧ v ≤ 23) : clsB (layF eqI l lo hi v) := fun s hs => by
  cases hm : mayG lo hi with
  | false => unfold layF at hs; rw [if_pos hm] at hs; exact h s hs
  | true =>
    have hr2 : RiseG 0 (layF eqI l lo hi v) := layF_rise hr
    have h0 := hr2.mem s hs
    have h1 := mem_val hr2 hs (x := s.1) ⟨Int.le_refl _, h0.2.1⟩
    rw [layF_val eqI_law hr hm] at h1
    split at h1
    · cases h1; exact hv
    · unfold valG at h1
      rw [Option.map_eq_some_iff] at h1
      obtain ⟨y, hy, e⟩ := h1
      have := h y (List.mem_of_find?_eq_some hy)
      rw [e] at this; exact this
theorem clsB_put {l : List SpI} {lo hi v : Int} (h : clsB l) (hr : RiseG 0 l) (hv : 1 ≤ v ∧ v ≤ 23) : clsB (putF eqI l lo hi v) := by
  cases hm : mayG lo hi with
  | false => unfold putF; rw [if_pos hm]; exact h
  | true =>
    unfold putF; rw [if_neg (by rw [hm]; decide)]
    split
    · exact h
    · have := clsB_lay (lo := lo) (hi := hi) h hr hv
      unfold layF at this; rw [if_neg (by rw [hm]; decide)] at this; exact this
theorem classN_rng (name : List UInt8) : ∀ (n : Nat) (c : Int), 1 ≤ c → (classN name n c).2 = 0 → 1 ≤ (classN name n c).1 ∧ (classN name n c).1 ≤ 23
  | 0, c, hc, h => by simp [classN] at h
  | n + 1, c, hc, h => by
    unfold classN at h ⊢
    by_cases h23 : c ≤ 23
    · rw [if_pos h23] at h ⊢
      by_cases h1 : alikeB name (shortS c) = true
      · rw [if_pos h1]; exact ⟨hc, h23⟩
      · rw [if_neg h1] at h ⊢
        by_cases h2 : alikeB name (longS c) = true
        · rw [if_pos h2]; exact ⟨hc, h23⟩
        · rw [if_neg h2] at h ⊢
          exact classN_rng name n (c + 1) (by omega) h
    · rw [if_neg h23] at h; exact absurd h (by decide)
theorem class_rng {name : List UInt8} (h : (classF name).2 = 0) : 1 ≤ (classF name).1 ∧ (classF name).1 ≤ 23 := classN_rng name _ 1 (by omega) h
theorem told_cls {f : List (List UInt8)} {wr : Int} (hw : wr ≠ 0) (h : (toldC f wr).2.2.2 = 0) : 1 ≤ (toldC f wr).2.2.1 ∧ (toldC f wr).2.2.1 ≤ 23 := by
  unfold toldC at *
  split at h
  · exact absurd h hw
  · rename_i h1
    rw [if_neg h1]
    split at h
    · rename_i h2; exact absurd h h2
    · rename_i h2; rw [if_neg h2]; exact class_rng h
theorem step_cls (t : TabC) (x : LineD) (h1 : MapOk eqI t.1) (h : clsB t.1 ∧ clsB t.2.2) : clsB (stepL t x).1.1 ∧ clsB (stepL t x).1.2.2 := by
  unfold stepL stepC
  repeat' split
  all_goals try exact h
  · rename_i h2 h3 h4
    exact ⟨clsB_put h.1 h1.rise (told_cls (by decide) (by simpa using h3)), h.2⟩
  · rename_i h2 h3 h4 h5
    refine ⟨h.1, fun y hy => ?_⟩
    rcases List.mem_append.1 hy with hy | hy
    · exact h.2 y hy
    · obtain rfl := List.mem_singleton.1 hy
      exact told_cls (by decide) (by simpa using h5)
theorem go_cls : ∀ (l : List LineD) (t : TabC), MapOk eqI t.1 → MapOk eqI t.2.1 → clsB t.1 ∧ clsB t.2.2 → clsB (goC t l).1.1 ∧ clsB (goC t l).1.2.2
  | [], t, _, _, h => h
  | x :: l, t, h1, h2, h => by
    unfold goC
    split
    · exact h
    · have h3 := step_ok t x h1 h2
      exact go_cls l _ h3.1 h3.2.1 (step_cls t x h1 h)
theorem cls_cls (s : List UInt8) : clsB (clsF s).1.1 ∧ clsB (clsF s).1.2.2 := by
  unfold clsF
  split
  · exact ⟨clsB_nil, clsB_nil⟩
  · exact go_cls _ _ MapOk.nil MapOk.nil ⟨clsB_nil, clsB_nil⟩
end Go.FK
end

/- === POne === -/
section
/- POne: ranges put one by one, and those that were taken laid the other way round: the same map. My own text. -/
set_option linter.unusedVariables false
namespace Go.FK
open Go Go.RowKit
abbrev Rg := Int × Int
def encRg (x : Rg) : List Value := [.int .i32 x.1, .int .i32 x.2]
def valA (val : List Bool) (k : Int) : Bool := val.getD k.toNat false
def tookIn (l : List Rg) (x k : Int) : Bool := match l[k.toNat]? with | some r => decide (r.1 ≤ x ∧ x ≤ r.2) | none => false
def valT (l : List Rg) (val : List Bool) (T : List Int) (x : Int) : Option Bool := (T.find? (tookIn l x)).map (valA val)
structure OneI (l : List Rg) (val : List Bool) (i : Nat) (A : List SpB) (T : List Int) : Prop where
  ok : MapOk eqB A
  may : ∀ k ∈ T, 0 ≤ k ∧ k < i ∧ ∃ r, l[k.toNat]? = some r ∧ mayG r.1 r.2 = true
  same : ∀ x, valG A x = valT l val T x
section
variable {l : List Rg} {val : List Bool} {i : Nat} {A B : List SpB} {T : List Int} {r : Rg} {b : Bool}
theorem putE_ok {V : Type} {xs : List (SpG V)} {lo hi : Int} (h : putE xs lo hi = 0) : mayG lo hi = true ∧ metG xs lo hi = none := by
  unfold putE at h
  split at h
  · exact absurd h (by decide)
  · next h1 =>
    split at h
    · exact absurd h (by decide)
    · next h2 => exact ⟨by simpa using h1, by simpa using h2⟩
theorem putF_ok {V : Type} {eq : V → V → Bool} {xs : List (SpG V)} {lo hi : Int} {v : V} (h : putE xs lo hi = 0) : putF eq xs lo hi v = layG eq xs lo hi v := by
  have h1 := putE_ok h
  unfold putF
  rw [if_neg (by rw [h1.1]; decide), if_neg (by rw [h1.2]; simp)]
structure TwoI (l : List Rg) (val : List Bool) (T : List Int) (j : Nat) (B : List SpB) : Prop where
  ok : MapOk eqB B
  same : ∀ x, valG B x = valT l val (T.drop j) x
end
theorem at_first {V : Type} {z : V} {xs : List (SpG V)} (hr : RiseG 0 xs) {i : Nat} {s : SpG V} (hs : xs[i]? = some s) : atM z xs s.1 = (s.2.2, true) := by
  have h := hr.at hs
  unfold atM
  rw [if_pos (by simp [inR]; omega), mem_val hr (List.mem_of_getElem? hs) ⟨Int.le_refl _, h.2.1⟩]; rfl
theorem at_last {V : Type} {z : V} {xs : List (SpG V)} (hr : RiseG 0 xs) {i : Nat} {s : SpG V} (hs : xs[i]? = some s) : atM z xs s.2.1 = (s.2.2, true) := by
  have h := hr.at hs
  unfold atM
  rw [if_pos (by simp [inR]; omega), mem_val hr (List.mem_of_getElem? hs) ⟨h.2.1, Int.le_refl _⟩]; rfl
def rgs {V : Type} (xs : List (SpG V)) : List Rg := xs.map fun s => (s.1, s.2.1)
end Go.FK
end

/- === PCl3 === -/
section
/- PCl3: the table covers each code point once; what is named has its class and its line. My own text. -/
set_option linter.unusedVariables false
namespace Go.FK
open Go Go.RowKit
def fullC (l : List SpI) : Prop := ∀ x : Int, 0 ≤ x → x ≤ 1114111 → (valG l x).isSome = true
theorem full_lay {m : List SpI} (h : fullC m) (hr : RiseG 0 m) (lo hi v : Int) : fullC (layF eqI m lo hi v) := fun x h0 h1 => by
  cases hm : mayG lo hi with
  | false => unfold layF; rw [if_pos hm]; exact h x h0 h1
  | true =>
    rw [layF_val eqI_law hr hm]
    split
    · rfl
    · exact h x h0 h1
theorem full_all : ∀ (l m : List SpI), fullC m → MapOk eqI m → clsB m → clsB l → fullC (layAll eqI m l) ∧ clsB (layAll eqI m l)
  | [], m, h, _, hc, _ => ⟨h, hc⟩
  | s :: l, m, h, hm, hc, hl => by
    have hs := hl s List.mem_cons_self
    exact full_all l (layF eqI m s.1 s.2.1 s.2.2) (full_lay h hm.rise _ _ _) (hm.lay eqI_law _ _ _) (clsB_lay hc hm.rise hs) (fun y hy => hl y (List.mem_cons_of_mem _ hy))
theorem full_zero : fullC (layF eqI [] 0 1114111 1) := fun x h0 h1 => by
  rw [layF_val eqI_law (show RiseG 0 ([] : List SpI) from trivial) (by decide), if_pos ⟨h0, h1⟩]; rfl
theorem whole_full (s : List UInt8) : fullC (wholeF (clsF s).1) ∧ clsB (wholeF (clsF s).1) := by
  have hc := cls_cls s
  have h0 : MapOk eqI (layF eqI ([] : List SpI) 0 1114111 1) := MapOk.nil.lay eqI_law _ _ _
  have h1 := full_all (clsF s).1.2.2 _ full_zero h0 (clsB_lay clsB_nil trivial (by decide)) hc.2
  exact full_all (clsF s).1.1 _ h1.1 (layL_ok _ _ h0) h1.2 hc.1
theorem whole_named (s : List UInt8) {x v : Int} (h : valG (clsF s).1.1 x = some v) : valG (wholeF (clsF s).1) x = some v := by
  have h0 := layL_ok (clsF s).1.2.2 _ (MapOk.nil.lay eqI_law 0 1114111 1)
  unfold wholeF
  rw [(layAll_ok eqI_law (cls_ok s).1.rise h0).2, h]; rfl
def tabI (t : TabC) : Prop := ∀ x, (valG t.2.1 x).isSome = (valG t.1 x).isSome ∧ ∀ v, valG t.2.1 x = some v → 1 ≤ v
theorem scan_no1 {no : Int} {s : List UInt8} (h : (scanF no s).1.2.1 = 1) : (scanF no s).1.1 = no := by
  unfold scanF at *
  repeat' split at h
  all_goals first | rfl | (exfalso; revert h; decide) | skip
  all_goals simp_all [zeroL]
theorem put_valI {t : List SpI} {lo hi v x : Int} (hr : RiseG 0 t) (h : putE t lo hi = 0) : valG (putF eqI t lo hi v) x = if lo ≤ x ∧ x ≤ hi then some v else valG t x := by
  rw [putF_ok h, layG_val eqI_law hr (putE_ok h).1]
theorem step_tab (t : TabC) (x : LineD) (h1 : MapOk eqI t.1) (h2 : MapOk eqI t.2.1) (hn : x.2.1 = 1 → 1 ≤ x.1) (h : tabI t) (h0 : (stepL t x).2 = 0) : tabI (stepL t x).1 := by
  unfold stepL stepC at *
  split at h0
  · rename_i hk
    rw [if_pos hk]
    split at h0
    · rename_i h3; exact absurd h0 h3
    · rename_i h3
      rw [if_neg h3]
      split at h0
      · rename_i h4; exact absurd h0 h4
      · rename_i h4
        rw [if_neg h4]
        have h4' : putE t.2.1 (toldC x.2.2.2.1 70).1 (toldC x.2.2.2.1 70).2.1 = 0 := by omega
        intro y
        show (valG (putF eqI t.2.1 _ _ _) y).isSome = (valG (putF eqI t.1 _ _ _) y).isSome ∧ ∀ v, valG (putF eqI t.2.1 _ _ _) y = some v → 1 ≤ v
        rw [put_valI h2.rise h4', put_valI h1.rise h0]
        split
        · exact ⟨rfl, fun v hv => by cases hv; exact hn hk⟩
        · exact h y
  · rename_i hk
    rw [if_neg hk]
    split at h0
    · exact absurd h0 (by show ¬ (33 : Int) = 0; decide)
    · rename_i h3
      rw [if_neg h3]
      split at h0
      · rename_i h4
        rw [if_pos h4]
        split at h0
        · rename_i h5; exact absurd h0 h5
        · rename_i h5; rw [if_neg h5]; exact h
      · rename_i h4; rw [if_neg h4]; exact h
theorem go_tab : ∀ (l : List LineD) (t : TabC), MapOk eqI t.1 → MapOk eqI t.2.1 → (∀ x ∈ l, x.2.1 = 1 → 1 ≤ x.1) → tabI t → tabI (goC t l).1
  | [], t, _, _, _, h => h
  | x :: l, t, h1, h2, hl, h => by
    unfold goC
    split
    · exact h
    · rename_i h0
      have h3 := step_ok t x h1 h2
      exact go_tab l _ h3.1 h3.2.1 (fun y hy => hl y (List.mem_cons_of_mem _ hy)) (step_tab t x h1 h2 (hl x List.mem_cons_self) h (by omega))
theorem toldL_no (s : List UInt8) : ∀ (l : List (Int × Int × Int)) (k : Nat), ∀ y ∈ toldL s k l, 1 ≤ y.1
  | [], k, y, h => by cases h
  | p :: l, k, y, h => by
    rw [toldL] at h
    split at h
    · cases h
    · rcases List.mem_cons.1 h with rfl | h
      · show (1 : Int) ≤ ((k + 1 : Nat) : Int); omega
      · exact toldL_no s l (k + 1) y h
theorem tab_nil : tabI ([], [], []) := fun x => ⟨rfl, fun v h => by cases h⟩
theorem cls_tab (s : List UInt8) : tabI (clsF s).1 := by
  unfold clsF
  split
  · exact tab_nil
  · refine go_tab _ _ MapOk.nil MapOk.nil (fun x hx hk => ?_) tab_nil
    unfold linesF at hx
    obtain ⟨y, hy, rfl⟩ := List.mem_map.1 hx
    rw [scan_no1 hk]
    exact toldL_no s _ 0 y hy
def wI (W : List SpI) (i : Nat) (at_ last : Int) : Prop := (i = 0 ∧ at_ = 0 ∧ last = 0) ∨ ∃ y, 0 < i ∧ W[i - 1]? = some y ∧ at_ = y.2.1 + 1 ∧ last = y.2.2
theorem wI_zero (W : List SpI) : wI W 0 0 0 := .inl ⟨rfl, rfl, rfl⟩
section
variable {W : List SpI} {i : Nat} {at_ last : Int} {x : SpI}
theorem wI_rng (h : wI W i at_ last) (hr : RiseG 0 W) : 0 ≤ at_ ∧ at_ ≤ 1114112 := by
  rcases h with ⟨_, rfl, _⟩ | ⟨y, _, hy, rfl, _⟩
  · omega
  · have := hr.at hy; omega
theorem wI_step (h : wI W i at_ last) (hx : W[i]? = some x) : wI W (i + 1) (x.2.1 + 1) x.2.2 := .inr ⟨x, by omega, by rw [Nat.add_sub_cancel]; exact hx, rfl, rfl⟩
theorem w_low (h : wI W i at_ last) (hr : RiseG 0 W) {a : Nat} {s : SpI} (ha : a < i) (hs : W[a]? = some s) : s.2.1 < at_ := by
  rcases h with ⟨rfl, _, _⟩ | ⟨y, h0, hy, rfl, _⟩
  · omega
  · have := hr.le (show a ≤ i - 1 by omega) hs hy; omega
theorem w_at (h : wI W i at_ last) (hf : fullC W) (hr : RiseG 0 W) (hx : W[i]? = some x) : x.1 = at_ := by
  have h1 := hr.at hx
  have h2 := wI_rng h hr
  have hlo : at_ ≤ x.1 := by
    rcases h with ⟨_, rfl, _⟩ | ⟨y, h0, hy, rfl, _⟩
    · exact h1.1
    · have := rise_lt hr (show i - 1 < i by omega) hy hx; omega
  have hfr : fromG W at_ = i := fromG_eq W at_ i (by have := (List.getElem?_eq_some_iff.1 hx).1; omega) (fun a s ha hs => w_low h hr ha hs) (fun s hs => by rw [hx] at hs; cases hs; omega)
  have h3 := hf at_ h2.1 (by omega)
  rw [val_from hr (by rw [hfr]; exact hx)] at h3
  split at h3
  · omega
  · cases h3
theorem w_end (h : wI W i at_ last) (hf : fullC W) (hr : RiseG 0 W) (hi : W.length ≤ i) : at_ = 1114112 := by
  have h2 := wI_rng h hr
  cases hq : decide (at_ ≤ 1114111) with
  | false => have := of_decide_eq_false hq; omega
  | true =>
    have h4 := of_decide_eq_true hq
    have h3 := hf at_ h2.1 h4
    have hfr : fromG W at_ = W.length := fromG_eq W at_ _ (Nat.le_refl _) (fun a s ha hs => w_low h hr (by omega) hs) (fun s hs => by simp at hs)
    rw [val_end (by omega)] at h3; cases h3
theorem w_last (h : wI W i at_ last) (hc : clsB W) (hm : MapOk eqI W) (he : x.1 = at_) (hx : W[i]? = some x) : x.2.2 ≠ last := by
  have hx2 := hc x (List.mem_of_getElem? hx)
  rcases h with ⟨_, _, rfl⟩ | ⟨y, h0, hy, rfl, rfl⟩
  · omega
  · have hs : W = W.take i ++ W.drop i := (List.take_append_drop i W).symm
    have h1 := hm.can
    rw [hs, can_app] at h1
    have h2 := h1.2
    rw [drop_line hx] at h2
    have h3 : lastG none (W.take i) = some (y.2.1, y.2.2) := by
      rw [show i = (i - 1) + 1 by omega, List.take_add_one, hy]; exact lastG_snoc _ _ _
    have h4 := h2.1 _ _ h3 he.symm
    intro e
    rw [e] at h4
    exact absurd h4 (by simp [eqI])
end
theorem at_in {l : List SpI} {x v : Int} (h : valG l x = some v) (h0 : 0 ≤ x) (h1 : x ≤ 1114111) : atM 0 l (plainF x) = (v, true) := by
  rw [← plain_n h0 h1]
  unfold atM
  rw [if_pos (by simp [inR]; omega), h]; rfl
theorem wh_lo {W : List SpI} (hr : RiseG 0 W) {i : Nat} {x : SpI} (hx : W[i]? = some x) : atM 0 W (plainF x.1) = (x.2.2, true) := by
  have := hr.at hx
  rw [← plain_n (by omega) (by omega)]; exact at_first hr hx
theorem wh_hi {W : List SpI} (hr : RiseG 0 W) {i : Nat} {x : SpI} (hx : W[i]? = some x) : atM 0 W (plainF x.2.1) = (x.2.2, true) := by
  have := hr.at hx
  rw [← plain_n (by omega) (by omega)]; exact at_last hr hx
theorem nm_cls {s : List UInt8} {i : Nat} {x : SpI} (hx : (clsF s).1.1[i]? = some x) : atM 0 (wholeF (clsF s).1) (plainF x.1) = (x.2.2, true) := by
  have h := (cls_ok s).1.rise
  have h1 := h.at hx
  exact at_in (whole_named s (mem_val h (List.mem_of_getElem? hx) ⟨Int.le_refl _, h1.2.1⟩)) (by omega) (by omega)
theorem nm_line {s : List UInt8} {i : Nat} {x : SpI} (hx : (clsF s).1.1[i]? = some x) : 1 ≤ (atM 0 (clsF s).1.2.1 (plainF x.2.1)).1 := by
  have h := (cls_ok s).1.rise
  have h1 := h.at hx
  have h2 := mem_val h (List.mem_of_getElem? hx) (x := x.2.1) ⟨h1.2.1, Int.le_refl _⟩
  have h3 := cls_tab s x.2.1
  rw [h2] at h3
  cases hv : valG (clsF s).1.2.1 x.2.1 with
  | none => rw [hv] at h3; exact absurd h3.1 (by simp)
  | some n => rw [at_in hv (by omega) (by omega)]; exact h3.2 n hv
theorem few1 {α : Type} (l : List α) : fewC l (-1) = l := few_neg l (by decide)
section
variable {s : List UInt8} {i : Nat} {a l : Int} {x : SpI}
theorem wA (h : wI (wholeF (clsF s).1) i a l) (hx : (fewC (wholeF (clsF s).1) (-1))[i]? = some x) : x.1 = a ∧ x.1 ≤ x.2.1 ∧ x.2.1 ≤ 1114111 ∧ x.2.2 ≠ l ∧ (atM 0 (wholeF (clsF s).1) (plainF x.1)).1 = x.2.2 ∧ (atM 0 (wholeF (clsF s).1) (plainF x.2.1)).1 = x.2.2 ∧ wI (wholeF (clsF s).1) (i + 1) (x.2.1 + 1) x.2.2 := by
  rw [few1] at hx
  have hr := whole_ok (clsF s).1
  have h1 := w_at h (whole_full s).1 hr.rise hx
  have h2 := hr.rise.at hx
  exact ⟨h1, h2.2.1, h2.2.2, w_last h (whole_full s).2 hr h1 hx, by rw [wh_lo hr.rise hx], by rw [wh_hi hr.rise hx], wI_step h hx⟩
theorem wZ (h : wI (wholeF (clsF s).1) i a l) (hi : (fewC (wholeF (clsF s).1) (-1)).length ≤ i) : a = 1114112 := by
  rw [few1] at hi
  exact w_end h (whole_full s).1 (whole_ok (clsF s).1).rise hi
theorem nA (hx : (fewC (clsF s).1.1 (-1))[i]? = some x) : atM 0 (clsF s).1.1 (plainF x.1) = (x.2.2, true) ∧ atM 0 (clsF s).1.1 (plainF x.2.1) = (x.2.2, true) ∧ (atM 0 (wholeF (clsF s).1) (plainF x.1)).1 = x.2.2 ∧ 1 ≤ (atM 0 (clsF s).1.2.1 (plainF x.2.1)).1 := by
  rw [few1] at hx
  have hr := (cls_ok s).1.rise
  exact ⟨wh_lo hr hx, wh_hi hr hx, by rw [nm_cls hx], nm_line hx⟩
end
end Go.FK
end

/- === Wllines === -/
section
/- Walks, written by my program walk.py out of the specification llines.py: each theorem says what one function returns and that it leaves memory as it was. -/
namespace Go.Proofs.YtkclikfejmeblaaGreatDoor
open Go Go.RowKit Go.FK
set_option maxHeartbeats 4000000
set_option maxRecDepth 100000
set_option linter.unusedVariables false
set_option linter.unusedSimpArgs false
theorem el70 : Elem Tryz.prog 70 9 1 16 := ⟨Tryz.underlying70, by kernel_rfl, rfl⟩
theorem el161 : Elem Tryz.prog 161 164 3 24 := ⟨Tryz.underlying161, by kernel_rfl, rfl⟩
theorem el58 : Elem Tryz.prog 58 72 5 72 := ⟨Tryz.underlying58, by kernel_rfl, rfl⟩
theorem c_strings_IndexByte (s : List UInt8) (c : Int) (w : World) :
  Calls Tryz.prog 127 #[(S s), (.int .u8 c)] w (Ret fun v w' => v = (.int .i64 (ibF s c)) ∧ Below w.heap.size w w') :=
 indexByte_contract Tryz.strings_IndexByte s c w
theorem c_strings_HasPrefix (s : List UInt8) (p : List UInt8) (w : World) :
  Calls Tryz.prog 96 #[(S s), (S p)] w (Ret fun v w' => v = (.bool (hpB s p)) ∧ Below w.heap.size w w') :=
 hasPrefix_contract Tryz.strings_HasPrefix s p w
theorem c_stringslite_Index (s : List UInt8) (sep : List UInt8) (w : World) (h1 : sep.length = 1) :
  Calls Tryz.prog 144 #[(S s), (S sep)] w (Ret fun v w' => v = (.int .i64 (Lib.index s sep)) ∧ Below w.heap.size w w') :=
 index1_contract Tryz.stringslite_Index_one s sep w h1
theorem c_stringslite_Cut (s : List UInt8) (sep : List UInt8) (w : World) (h1 : sep.length = 1) (hs : s.length ≤ 1073741824) :
  Calls Tryz.prog 129 #[(S s), (S sep)] w (Ret fun v w' => v = (.tuple #[(S ((Lib.cut s sep).1)), (S ((Lib.cut s sep).2.1)), (.bool ((Lib.cut s sep).2.2))]) ∧ Below w.heap.size w w') := by
 refine enter (args := [(S s), (S sep)]) Tryz.func129 rfl (by kernel_rfl : _ = 23) (by kernel_rfl) ?_
 have hb := Below.refl w.heap.size w
 have hs : w.heap.size ≤ w.heap.size := Nat.le_refl _
 refine zF (zD (zL (zL (zL (zE (zA (zF (zF (zD (zJ (zJ (yD 144 [(S s), (S sep)] (by kernel_rfl) (by kernel_rfl) (c_stringslite_Index s sep _ (by omega)) ?_))))))))))))
 rintro _ w1 ⟨rfl, hB2⟩
 replace hb := hb.trans (hB2.mono hs)
 replace hs := Nat.le_trans hs (hB2.size)
 have := ixl_range s sep
 refine zL (zE (zA (zF (zD (zJ (yE .i64 (Lib.index s sep) 0 (0 ≤ (Lib.index s sep)) rfl (cmp_ge (Lib.index s sep) 0) (by kernel_rfl) (by kernel_rfl) ?_ ?_))))))
 ·intro h4
  replace h4 : 0 ≤ (Lib.index s sep) := by omega
  refine zE (zA (zV (by kernel_rfl) (zF (W_quiet (by kernel_rfl) (by kernel_rfl) (yG (yG (Lq_ssto s (((Lib.index s sep)).toNat) Tryz.underlying9 (by kernel_rfl) (toNat_val (Lib.index s sep) .i64 (by kernel_rfl) (by omega)) (by omega) (yG (yG (yG (Lq_slen 9 sep rfl Tryz.underlying9 (by kernel_rfl) (Lq_arith (Lib.index s sep) (((sep).length : Nat) : Int) ((Lib.index s sep) + (((sep).length : Nat) : Int)) rfl (by kernel_rfl) (by kernel_rfl) (xL _ (by simp only [arithZ]; omega) (by simp only [arithZ]; omega)) (Lq_ssfrom s ((((Lib.index s sep) + (((sep).length : Nat) : Int))).toNat) Tryz.underlying9 (by kernel_rfl) (toNat_val ((Lib.index s sep) + (((sep).length : Nat) : Int)) .i64 (by kernel_rfl) (by omega)) (by omega) (Lq_as (Lq_as (Lq_as (xB ?_)))))))))))))))))
  intro w5 hB6
  replace hb := hb.trans (hB6.mono hs)
  replace hs := Nat.le_trans hs (hB6.size)
  refine zA (yA (zM ?_))
  refine zR [.tmp 4, .tmp 5, .tmp 6] [(S (List.take (((Lib.index s sep)).toNat) s)), (S (List.drop ((((Lib.index s sep) + (((sep).length : Nat) : Int))).toNat) s)), (.bool true)] rfl rfl ⟨by kernel_rfl, by kernel_rfl, by kernel_rfl, trivial⟩ ?_
  have hE : ((List.take (((Lib.index s sep)).toNat) s) = (Lib.cut s sep).1) ∧ ((List.drop ((((Lib.index s sep) + (((sep).length : Nat) : Int))).toNat) s) = (Lib.cut s sep).2.1) ∧ (true = (Lib.cut s sep).2.2) := ⟨(by (rw [cut_some (by omega)]; done)), (by (rw [cut_some (by omega)]; done)), (by (rw [cut_some (by omega)]; done))⟩
  exact ⟨tup3 (congrArg S hE.1) (congrArg S hE.2.1) (congrArg Value.bool hE.2.2), hb⟩
 ·intro h7
  replace h7 : (Lib.index s sep) < 0 := by omega
  refine zE (zA (zQ (by kernel_rfl) (zY (zA (zF (zD (zJ (zL (zL (zL (zE (zA (yA ?_)))))))))))))
  refine zR [.tmp 4, .tmp 5, .tmp 6] [(S s), (S ([] : List UInt8)), (.bool false)] rfl rfl ⟨by kernel_rfl, by kernel_rfl, by kernel_rfl, trivial⟩ ?_
  have hE : (s = (Lib.cut s sep).1) ∧ (([] : List UInt8) = (Lib.cut s sep).2.1) ∧ (false = (Lib.cut s sep).2.2) := ⟨(by (rw [cut_none (by omega)]; done)), (by (rw [cut_none (by omega)]; done)), (by (rw [cut_none (by omega)]; done))⟩
  exact ⟨tup3 (congrArg S hE.1) (congrArg S hE.2.1) (congrArg Value.bool hE.2.2), hb⟩
theorem c_strings_Cut (s : List UInt8) (sep : List UInt8) (w : World) (h1 : sep.length = 1) (hs : s.length ≤ 1073741824) :
  Calls Tryz.prog 94 #[(S s), (S sep)] w (Ret fun v w' => v = (.tuple #[(S ((Lib.cut s sep).1)), (S ((Lib.cut s sep).2.1)), (.bool ((Lib.cut s sep).2.2))]) ∧ Below w.heap.size w w') := by
 refine enter (args := [(S s), (S sep)]) Tryz.func94 rfl (by kernel_rfl : _ = 13) (by kernel_rfl) ?_
 have hb := Below.refl w.heap.size w
 have hs : w.heap.size ≤ w.heap.size := Nat.le_refl _
 refine zF (zD (zL (zL (zL (zE (zA (zF (zD (zJ (zJ (yD 129 [(S s), (S sep)] (by kernel_rfl) (by kernel_rfl) (c_stringslite_Cut s sep _ (by omega) (by omega)) ?_)))))))))))
 rintro _ w1 ⟨rfl, hB2⟩
 replace hb := hb.trans (hB2.mono hs)
 replace hs := Nat.le_trans hs (hB2.size)
 have := cutl_len s sep
 refine zT (S ((Lib.cut s sep).1)) (by kernel_rfl) (by kernel_rfl) (zT (S ((Lib.cut s sep).2.1)) (by kernel_rfl) (by kernel_rfl) (zT (.bool ((Lib.cut s sep).2.2)) (by kernel_rfl) (by kernel_rfl) (zL (zL (zL (zE (zA (yA ?_))))))))
 refine zR [.tmp 4, .tmp 5, .tmp 6] [(S ((Lib.cut s sep).1)), (S ((Lib.cut s sep).2.1)), (.bool ((Lib.cut s sep).2.2))] rfl rfl ⟨by kernel_rfl, by kernel_rfl, by kernel_rfl, trivial⟩ ?_
 have hE : ((Lib.cut s sep).1 = (Lib.cut s sep).1) ∧ ((Lib.cut s sep).2.1 = (Lib.cut s sep).2.1) ∧ ((Lib.cut s sep).2.2 = (Lib.cut s sep).2.2) := ⟨(by first | rfl | (simp_all; done) | omega), (by first | rfl | (simp_all; done) | omega), (by first | rfl | (simp_all; done) | omega)⟩
 exact ⟨tup3 (congrArg S hE.1) (congrArg S hE.2.1) (congrArg Value.bool hE.2.2), hb⟩
theorem c_strings_Trim (s : List UInt8) (c : List UInt8) (w : World) (ha : c.all (fun b => decide (b.toNat < 128)) = true) (hs : s.length ≤ 1073741824) (hc : c.length ≤ 1073741824) :
  Calls Tryz.prog 130 #[(S s), (S c)] w (Ret fun v w' => v = (S (Lib.trimS s c)) ∧ Below w.heap.size w w') :=
 trim_contract (fun s c w hs hcs ha => Go.Proofs.Any.strings_Trim_laid Tryz.lays160 (by kernel_rfl) s c w hs hcs ha) s c w ha hs hc
theorem c_lines_trim (s : List UInt8) (w : World) (hs : s.length ≤ 1073741824) :
  Calls Tryz.prog 95 #[(S s)] w (Ret fun v w' => v = (S (trmF s)) ∧ Below w.heap.size w w') := by
 refine enter (args := [(S s)]) Tryz.func95 rfl (by kernel_rfl : _ = 5) (by kernel_rfl) ?_
 have hb := Below.refl w.heap.size w
 have hs : w.heap.size ≤ w.heap.size := Nat.le_refl _
 refine zF (zD (zL (zE (zA (zF (zD (zJ (yD 130 [(S s), (S ([32, 9] : List UInt8))] (by kernel_rfl) (by kernel_rfl) (c_strings_Trim s ([32, 9] : List UInt8) _ (by decide) (by first | omega | decide) (by first | omega | decide)) ?_))))))))
 rintro _ w1 ⟨rfl, hB2⟩
 replace hb := hb.trans (hB2.mono hs)
 replace hs := Nat.le_trans hs (hB2.size)
 refine zL (zE (zA (yA ?_)))
 refine zR [.tmp 2] [(S (Lib.trimS s ([32, 9] : List UInt8)))] rfl rfl ⟨by kernel_rfl, trivial⟩ ?_
 have e0 : (Lib.trimS s ([32, 9] : List UInt8)) = (trmF s) := by rfl
 exact ⟨congrArg S e0, hb⟩
theorem c_lines_wrong (s : List UInt8) (p : Nat) (r : Int) (w : World) (hp : p ≤ s.length) :
  Calls Tryz.prog 128 #[(S s), (.int .i64 ((p : Nat) : Int)), (.int .i32 r)] w (Ret fun v w' => v = (.bool (wrongB s p r)) ∧ Below w.heap.size w w') := by
 refine enter (args := [(S s), (.int .i64 ((p : Nat) : Int)), (.int .i32 r)]) Tryz.func128 rfl (by kernel_rfl : _ = 18) (by kernel_rfl) ?_
 have hb := Below.refl w.heap.size w
 have hs : w.heap.size ≤ w.heap.size := Nat.le_refl _
 refine zF (zD (zL (zE (zA (zF (zD (zJ (yE .i32 r 65533 (r = 65533) rfl (yW r 65533) (by kernel_rfl) (by kernel_rfl) ?_ ?_))))))))
 ·intro h1
  replace h1 : r = 65533 := by omega
  refine zJ (zZ (by kernel_rfl) (zJ (zZ (by kernel_rfl) (zJ (zZ (by kernel_rfl) (L_ssfrom s p Tryz.underlying9 (by kernel_rfl) ⟨.i64, by kernel_rfl⟩ (by omega) (zZ (by kernel_rfl) (zJ (zZ (by kernel_rfl) (L_runeStr r (by kernel_rfl) Tryz.underlying21 Tryz.underlying9 (zZ (by kernel_rfl) (yD 96 [(S (List.drop p s)), (S (encL [r]))] (by kernel_rfl) (by kernel_rfl) (c_strings_HasPrefix (List.drop p s) (encL [r]) _ ) ?_))))))))))))
  rintro _ w2 ⟨rfl, hB3⟩
  replace hb := hb.trans (hB3.mono hs)
  replace hs := Nat.le_trans hs (hB3.size)
  refine xK (hpB (List.drop p s) (encL [r])) ?_ ?_
  ·intro h5
   refine zZ (by kernel_rfl) (L_not true (by kernel_rfl) (yS (by kernel_rfl) (zL (zE (zA (yA ?_))))))
   refine zR [.tmp 6] [(.bool false)] rfl rfl ⟨by kernel_rfl, trivial⟩ ?_
   have e0 : false = wrongB s p r := by (unfold wrongB; simp_all; done)
   exact ⟨congrArg Value.bool e0, hb⟩
  ·intro h6
   refine zZ (by kernel_rfl) (L_not false (by kernel_rfl) (yS (by kernel_rfl) (zL (zE (zA (yA ?_))))))
   refine zR [.tmp 6] [(.bool true)] rfl rfl ⟨by kernel_rfl, trivial⟩ ?_
   have e0 : true = wrongB s p r := by (unfold wrongB; simp_all; done)
   exact ⟨congrArg Value.bool e0, hb⟩
 ·intro h7
  replace h7 : r ≠ 65533 := by omega
  refine zJ (yF (by kernel_rfl) (yF (by kernel_rfl) (yF (by kernel_rfl) (yF (by kernel_rfl) (yF (by kernel_rfl) (yF (by kernel_rfl) (yF (by kernel_rfl) (yR (by kernel_rfl) (zL (zE (zA (yA ?_))))))))))))
  refine zR [.tmp 6] [(.bool false)] rfl rfl ⟨by kernel_rfl, trivial⟩ ?_
  have e0 : false = wrongB s p r := by (simp [wrongB, *]; done)
  exact ⟨congrArg Value.bool e0, hb⟩
theorem c_lines_Check (s : List UInt8) (w : World) (hs : s.length ≤ 1073741824) :
  Calls Tryz.prog 92 #[(S s)] w (Ret fun v w' => v = (.tuple #[(.int .i64 (((chkF s).1 : Nat) : Int)), (.int .i64 ((chkF s).2))]) ∧ Below w.heap.size w w') := by
 refine enter (args := [(S s)]) Tryz.func92 rfl (by kernel_rfl : _ = 35) (by kernel_rfl) ?_
 have hb := Below.refl w.heap.size w
 have hs : w.heap.size ≤ w.heap.size := Nat.le_refl _
 refine zF (zD (zL (zL (zE (zA (zF (zD (zL (zE (zA (zF (zF (zD (zJ (L_range s Tryz.underlying9 (by kernel_rfl) ?_)))))))))))))))
 intro b1 w2 hN3
 have g_it8 : w.heap.size ≤ b1 := by rw [hN3.num]; exact hs
 replace hb := hb.trans (hN3.below.mono hs)
 replace hs := Nat.le_trans hs (hN3.below.size)
 have o_it8 := hN3.here
 refine zE (zA (yU ?_))
 refine W_loop (fun m s0 w0 => ∃ (pos : Nat) (n : Nat), (m = s.length - pos) ∧ (s0.ds = []) ∧ (s0.f 0 = (S s)) ∧ (s0.f 8 = (.pointer (some ⟨b1, 0, none⟩))) ∧ (s0.f 4 = (.int .i64 ((n : Nat) : Int))) ∧ (w0.heap[b1]? = some (.stringIter ⟨(s).toArray⟩ pos)) ∧ (Below w.heap.size w w0) ∧ (w.heap.size ≤ w0.heap.size) ∧ (pos ≤ s.length) ∧ (n ≤ pos) ∧ (n ≤ 4096) ∧ (chkL (charsFrom s pos) n = chkF s)) _ ⟨0, 0, rfl, by kernel_rfl, by kernel_rfl, by kernel_rfl, by kernel_rfl, o_it8, hb, hs, by omega, by omega, by omega, rfl⟩ ?_
 rintro m4 s5 w6 ⟨pos, n, hm, hds, f_0, f_8, f_4, o_it8, hb, hs, i1, i2, i4, i3⟩
 refine yL 0 _ f_0 (yL 8 _ f_8 (yL 4 _ f_4 ?_))
 clear f_0 f_8 f_4
 refine zF (zD ?_)
 rcases Nat.lt_or_ge pos (s).length with lt_it8 | ge_it8
 ·refine L_next s b1 pos (by kernel_rfl) o_it8 lt_it8 ?_
  intro c_it8 w7 ch_it8 hW8
  replace hb := hb.trans (hW8.below g_it8)
  replace hs := Nat.le_trans hs (Nat.le_of_eq hW8.size.symm)
  replace o_it8 := hW8.here
  have := dec_pos s pos; have := dec_fits s pos lt_it8; have := dec_le s pos
  have c_it8_0 : 0 ≤ c_it8 := by omega
  have c_it8_1 : c_it8 ≤ 2147483647 := by omega
  refine zT (.bool true) (by kernel_rfl) (by kernel_rfl) (zE (zA (zF (zV (by kernel_rfl) (zY (zA (yU (zF (zD (zT (.int .i64 ((pos : Nat) : Int)) (by kernel_rfl) (by kernel_rfl) (zT (.int .i32 c_it8) (by kernel_rfl) (by kernel_rfl) (zL (zL (zE (zA (zF (yU (zF (zD (zJ (yE .i64 ((n : Nat) : Int) ((4096 : Nat) : Int) (n = 4096) rfl (cmpN_eq n 4096) (by kernel_rfl) (by kernel_rfl) ?_ ?_)))))))))))))))))))))
  ·intro h9
   replace h9 : n = 4096 := by omega
   refine zL (zE (zA (zV (by kernel_rfl) (zF (zD (zJ (zL (zL (zE (zA (yA (zX (zM (zX (zM (zX (zM ?_)))))))))))))))))
   refine zR [.tmp 2, .tmp 3] [(.int .i64 ((n : Nat) : Int)), (.int .i64 32)] rfl hds ⟨by kernel_rfl, by kernel_rfl, trivial⟩ ?_
   have hE : (n = (chkF s).1) ∧ ((32 : Int) = (chkF s).2) := ⟨(by (rw [← i3, (by assumption : n = 4096), chk_wide lt_it8]; done)), (by (rw [← i3, (by assumption : n = 4096), chk_wide lt_it8]; done))⟩
   exact ⟨xJ (congrArg (fun x : Nat => Value.int .i64 (x : Int)) hE.1) (congrArg (Value.int .i64) hE.2), hb⟩
  ·intro h10
   replace h10 : n ≠ 4096 := by omega
   refine zL (zE (zA (zQ (by kernel_rfl) (zF (zD (zJ (zJ (zJ (yD 128 [(S s), (.int .i64 ((pos : Nat) : Int)), (.int .i32 c_it8)] (by kernel_rfl) (by kernel_rfl) (c_lines_wrong s pos c_it8 _ (by omega)) ?_)))))))))
   rintro _ w11 ⟨rfl, hB12⟩
   replace hb := hb.trans (hB12.mono hs)
   replace hs := Nat.le_trans hs (hB12.size)
   replace o_it8 := zB o_it8 hB12
   refine xK (wrongB s pos c_it8) ?_ ?_
   ·intro h14
    refine zL (zE (zA (zV (by kernel_rfl) (zF (zD (zJ (zL (zL (zE (zA (yA (zX (zM (zX (zM (zX (zM ?_)))))))))))))))))
    refine zR [.tmp 2, .tmp 3] [(.int .i64 ((n : Nat) : Int)), (.int .i64 30)] rfl hds ⟨by kernel_rfl, by kernel_rfl, trivial⟩ ?_
    have hE : (n = (chkF s).1) ∧ ((30 : Int) = (chkF s).2) := ⟨(by (rw [← i3, chk_wrong (n := n) lt_it8 (by omega) (by rw [← ch_it8]; assumption)]; done)), (by (rw [← i3, chk_wrong (n := n) lt_it8 (by omega) (by rw [← ch_it8]; assumption)]; done))⟩
    exact ⟨xJ (congrArg (fun x : Nat => Value.int .i64 (x : Int)) hE.1) (congrArg (Value.int .i64) hE.2), hb⟩
   ·intro h15
    refine zL (zE (zA (zQ (by kernel_rfl) (zF (zF (zD (zJ (yE .i32 c_it8 32 (c_it8 < 32) rfl (cmp_lt c_it8 32) (by kernel_rfl) (by kernel_rfl) ?_ ?_))))))))
    ·intro h16
     replace h16 : c_it8 < 32 := by omega
     refine zJ (zZ (by kernel_rfl) (zJ (zZ (by kernel_rfl) (yE .i32 c_it8 9 (c_it8 ≠ 9) rfl (cmp_ne c_it8 9) (by kernel_rfl) (by kernel_rfl) ?_ ?_))))
     ·intro h17
      replace h17 : c_it8 ≠ 9 := by omega
      refine yS (by kernel_rfl) (zL (zE (zA (zV (by kernel_rfl) (zY (zA (zV (by kernel_rfl) (zF (zD (zJ (zL (zL (zE (zA (yA (zX (zM (zX (zM (zX (zM ?_)))))))))))))))))))))
      refine zR [.tmp 2, .tmp 3] [(.int .i64 ((n : Nat) : Int)), (.int .i64 31)] rfl hds ⟨by kernel_rfl, by kernel_rfl, trivial⟩ ?_
      have hE : (n = (chkF s).1) ∧ ((31 : Int) = (chkF s).2) := ⟨(by (rw [← i3, chk_ctl (n := n) lt_it8 (by omega) (by rw [← ch_it8]; assumption) (by omega)]; done)), (by (rw [← i3, chk_ctl (n := n) lt_it8 (by omega) (by rw [← ch_it8]; assumption) (by omega)]; done))⟩
      exact ⟨xJ (congrArg (fun x : Nat => Value.int .i64 (x : Int)) hE.1) (congrArg (Value.int .i64) hE.2), hb⟩
     ·intro h18
      replace h18 : c_it8 = 9 := by omega
      refine yS (by kernel_rfl) (zL (zE (zA (zQ (by kernel_rfl) (zD (zJ (yE .i32 c_it8 127 (c_it8 = 127) rfl (yW c_it8 127) (by kernel_rfl) (by kernel_rfl) ?_ ?_)))))))
      ·intro h19
       replace h19 : c_it8 = 127 := by omega
       refine zL (zE (zA (zV (by kernel_rfl) (zF (zD (zJ (zL (zL (zE (zA (yA (zX (zM (zX (zM (zX (zM ?_)))))))))))))))))
       refine zR [.tmp 2, .tmp 3] [(.int .i64 ((n : Nat) : Int)), (.int .i64 31)] rfl hds ⟨by kernel_rfl, by kernel_rfl, trivial⟩ ?_
       have hE : (n = (chkF s).1) ∧ ((31 : Int) = (chkF s).2) := ⟨(by (rw [← i3, chk_ctl (n := n) lt_it8 (by omega) (by rw [← ch_it8]; assumption) (by omega)]; done)), (by (rw [← i3, chk_ctl (n := n) lt_it8 (by omega) (by rw [← ch_it8]; assumption) (by omega)]; done))⟩
       exact ⟨xJ (congrArg (fun x : Nat => Value.int .i64 (x : Int)) hE.1) (congrArg (Value.int .i64) hE.2), hb⟩
      ·intro h20
       replace h20 : c_it8 ≠ 127 := by omega
       refine zL (zE (zA (zQ (by kernel_rfl) (zY (zS (zA (zD (zJ (xH n 1 (by omega) (by kernel_rfl) (by kernel_rfl) (zL (zE (zS ?_))))))))))))
       refine zA ⟨_, ?_, (pos + (dec s pos).2), (n + 1), rfl, hds, by kernel_rfl, by kernel_rfl, by kernel_rfl, o_it8, hb, hs, ?_, ?_, ?_, ?_⟩
       ·omega
       ·omega
       ·omega
       ·omega
       ·rw [← chk_on (n := n) lt_it8 (by omega) (by rw [← ch_it8]; assumption) (by omega)]; exact i3
    ·intro h21
     replace h21 : 32 ≤ c_it8 := by omega
     refine zJ (yF (by kernel_rfl) (yF (by kernel_rfl) (yR (by kernel_rfl) (zL (zE (zA (zQ (by kernel_rfl) (zD (zJ (yE .i32 c_it8 127 (c_it8 = 127) rfl (yW c_it8 127) (by kernel_rfl) (by kernel_rfl) ?_ ?_))))))))))
     ·intro h22
      replace h22 : c_it8 = 127 := by omega
      refine zL (zE (zA (zV (by kernel_rfl) (zF (zD (zJ (zL (zL (zE (zA (yA (zX (zM (zX (zM (zX (zM ?_)))))))))))))))))
      refine zR [.tmp 2, .tmp 3] [(.int .i64 ((n : Nat) : Int)), (.int .i64 31)] rfl hds ⟨by kernel_rfl, by kernel_rfl, trivial⟩ ?_
      have hE : (n = (chkF s).1) ∧ ((31 : Int) = (chkF s).2) := ⟨(by (rw [← i3, chk_ctl (n := n) lt_it8 (by omega) (by rw [← ch_it8]; assumption) (by omega)]; done)), (by (rw [← i3, chk_ctl (n := n) lt_it8 (by omega) (by rw [← ch_it8]; assumption) (by omega)]; done))⟩
      exact ⟨xJ (congrArg (fun x : Nat => Value.int .i64 (x : Int)) hE.1) (congrArg (Value.int .i64) hE.2), hb⟩
     ·intro h23
      replace h23 : c_it8 ≠ 127 := by omega
      refine zL (zE (zA (zQ (by kernel_rfl) (zY (zS (zA (zD (zJ (xH n 1 (by omega) (by kernel_rfl) (by kernel_rfl) (zL (zE (zS ?_))))))))))))
      refine zA ⟨_, ?_, (pos + (dec s pos).2), (n + 1), rfl, hds, by kernel_rfl, by kernel_rfl, by kernel_rfl, o_it8, hb, hs, ?_, ?_, ?_, ?_⟩
      ·omega
      ·omega
      ·omega
      ·omega
      ·rw [← chk_on (n := n) lt_it8 (by omega) (by rw [← ch_it8]; assumption) (by omega)]; exact i3
 ·refine L_nextEnd s b1 pos (by kernel_rfl) o_it8 ge_it8 (zT (.bool false) (by kernel_rfl) (by kernel_rfl) (zE (zA (zF (zQ (by kernel_rfl) (W_exit (yQ (yQ (xT (zA (zF (zD (zL (zL (zE (zA (yA ?_)))))))))))))))))
  refine zR [.tmp 2, .tmp 3] [(.int .i64 0), (.int .i64 0)] rfl hds ⟨by kernel_rfl, by kernel_rfl, trivial⟩ ?_
  have hE : (0 = (chkF s).1) ∧ ((0 : Int) = (chkF s).2) := ⟨(by (rw [← i3, chk_end (by omega)]; done)), (by (rw [← i3, chk_end (by omega)]; done))⟩
  exact ⟨xJ (congrArg (fun x : Nat => Value.int .i64 (x : Int)) hE.1) (congrArg (Value.int .i64) hE.2), hb⟩
theorem c_lines_fields (s : List UInt8) (w : World) (hs : s.length ≤ 1073741824) :
  Calls Tryz.prog 98 #[(S s)] w (Ret fun v w' => ∃ (q0 : Value), v = q0 ∧ Row w' w.heap.size 9 1 encStr q0 (fieldsF s) ∧ Below w.heap.size w w') := by
 refine enter (args := [(S s)]) Tryz.func98 rfl (by kernel_rfl : _ = 37) (by kernel_rfl) ?_
 have hb := Below.refl w.heap.size w
 have hs : w.heap.size ≤ w.heap.size := Nat.le_refl _
 refine zF (zD (zL (zE (zA ?_))))
 refine W_scope (fun l m s0 w0 => (l = 1 ∧ ∃ (acc : List (List UInt8)) (fr : Nat) (at_ : Nat) (v_3 : Value), (m = 3 * (s.length - at_) + 2) ∧ (s0.ds = []) ∧ (s0.f 0 = (S s)) ∧ (s0.f 3 = v_3) ∧ (s0.f 4 = (.int .i64 ((fr : Nat) : Int))) ∧ (s0.f 5 = (.int .i64 ((at_ : Nat) : Int))) ∧ (Row w0 w.heap.size 9 1 encStr v_3 acc) ∧ (Below w.heap.size w w0) ∧ (w.heap.size ≤ w0.heap.size) ∧ (fr ≤ at_) ∧ (at_ ≤ s.length) ∧ (noB 59 s fr at_) ∧ (acc ++ (splF 59 (s.drop fr)).map trmF = (splF 59 s).map trmF) ∧ (trmF s ≠ []) ∧ (acc.length ≤ at_)) ∨ (l = 2 ∧ ∃ (acc : List (List UInt8)) (fr : Nat) (at_ : Nat) (v_3 : Value), (m = 3 * (s.length - at_) + 1) ∧ (s0.ds = []) ∧ (s0.f 0 = (S s)) ∧ (s0.f 3 = v_3) ∧ (s0.f 4 = (.int .i64 ((fr : Nat) : Int))) ∧ (s0.f 5 = (.int .i64 ((at_ : Nat) : Int))) ∧ (Row w0 w.heap.size 9 1 encStr v_3 acc) ∧ (Below w.heap.size w w0) ∧ (w.heap.size ≤ w0.heap.size) ∧ (fr ≤ at_) ∧ (at_ ≤ s.length) ∧ (noB 59 s fr at_) ∧ (acc ++ (splF 59 (s.drop fr)).map trmF = (splF 59 s).map trmF) ∧ (trmF s ≠ []) ∧ (acc.length ≤ at_) ∧ (∃ c : UInt8, s[at_]? = some c ∧ c.toNat = 59) ∧ (at_ < s.length)) ∨ (l = 0 ∧ ∃ (acc : List (List UInt8)) (fr : Nat) (at_ : Nat) (v_3 : Value), (m = 0) ∧ (s0.ds = []) ∧ (s0.f 0 = (S s)) ∧ (s0.f 3 = v_3) ∧ (s0.f 4 = (.int .i64 ((fr : Nat) : Int))) ∧ (s0.f 5 = (.int .i64 ((at_ : Nat) : Int))) ∧ (Row w0 w.heap.size 9 1 encStr v_3 acc) ∧ (Below w.heap.size w w0) ∧ (w.heap.size ≤ w0.heap.size) ∧ (fr ≤ at_) ∧ (at_ ≤ s.length) ∧ (noB 59 s fr at_) ∧ (acc ++ (splF 59 (s.drop fr)).map trmF = (splF 59 s).map trmF) ∧ (trmF s ≠ []) ∧ (acc.length ≤ at_) ∧ (at_ = s.length))) ?_ ?_
 ·refine zF (zD (zL (zE (zA (zF (zD (zL (zL (zE (zA (zF (zF (zD (zJ (yD 95 [(S s)] (by kernel_rfl) (by kernel_rfl) (c_lines_trim s _ (by omega)) ?_)))))))))))))))
  rintro _ w1 ⟨rfl, hB2⟩
  replace hb := hb.trans (hB2.mono hs)
  replace hs := Nat.le_trans hs (hB2.size)
  have := trm_len s
  refine L_seq (trmF s) ([] : List UInt8) rfl (by kernel_rfl) (by kernel_rfl) ?_ ?_
  ·intro h4
   refine zE (zA (zV (by kernel_rfl) (zF (zD (zL (zE (zA (yA (zM (jmpQ_ret ?_))))))))))
   refine zR [.tmp 2] [(.slice none 0 0)] rfl rfl ⟨by kernel_rfl, trivial⟩ ?_
   have e51 : ([] : List (List UInt8)) = fieldsF s := by exact (fields_nil (by assumption)).symm
   exact ⟨(.slice none 0 0), rfl, (Row.nil _ _ _ _ _).cast e51, hb⟩
  ·intro h5
   refine zE (zA (zQ (by kernel_rfl) (zY (zA (zF (W_label (zA (zF (zF (zD (zJ (zJ (L_slen 9 s rfl Tryz.underlying9 (by kernel_rfl) (yE .i64 ((0 : Nat) : Int) (((s).length : Nat) : Int) (0 = (s).length) rfl (cmpN_eq 0 ((s).length)) (by kernel_rfl) (by kernel_rfl) ?_ ?_))))))))))))))
   ·intro h6
    replace h6 : 0 = (s).length := by omega
    refine zE (zA (zV (by kernel_rfl) (W_goto (thenQ_goto (jmpQ_goto ?_)))))
    refine ⟨_, Or.inr (Or.inr (⟨rfl, [], 0, 0, (.slice none 0 0), rfl, rfl, by kernel_rfl, by kernel_rfl, by kernel_rfl, by kernel_rfl, Row.nil _ _ _ _ _, hb, hs, ?_, ?_, ?_, ?_, ?_, ?_, ?_⟩))⟩
    ·omega
    ·omega
    ·exact noB_zero _ _ _
    ·rfl
    ·first | assumption | exact i4
    ·(simp only [List.length_append, List.length_cons, List.length_nil]; omega)
    ·omega
   ·intro h7
    replace h7 : 0 ≠ (s).length := by omega
    refine zE (zA (zQ (by kernel_rfl) (zY (zA (zF (zF (zD (zJ (zJ ?_)))))))))
    have hz := xD s 0 (by omega); obtain ⟨c8, hc9⟩ := hz
    have := c8.toNat_lt
    refine L_sindex (k := .i64) s 0 c8 Tryz.underlying9 hc9 (by kernel_rfl) (by kernel_rfl) (yE .u8 ((c8.toNat : Nat) : Int) ((59 : Nat) : Int) (c8.toNat = 59) rfl (cmpN_eq c8.toNat 59) (by kernel_rfl) (by kernel_rfl) ?_ ?_)
    ·intro h10
     replace h10 : c8.toNat = 59 := by omega
     refine zE (zA (zV (by kernel_rfl) (W_goto (thenQ_goto (jmpQ_goto ?_)))))
     refine ⟨_, Or.inr (Or.inl (⟨rfl, [], 0, 0, (.slice none 0 0), rfl, rfl, by kernel_rfl, by kernel_rfl, by kernel_rfl, by kernel_rfl, Row.nil _ _ _ _ _, hb, hs, ?_, ?_, ?_, ?_, ?_, ?_, ?_, ?_⟩))⟩
     ·omega
     ·omega
     ·exact noB_zero _ _ _
     ·rfl
     ·first | assumption | exact i4
     ·(simp only [List.length_append, List.length_cons, List.length_nil]; omega)
     ·exact ⟨_, by assumption, by assumption⟩
     ·omega
    ·intro h11
     replace h11 : c8.toNat ≠ 59 := by omega
     refine zE (zA (zQ (by kernel_rfl) (zY (zA (zF (zD (zJ (xH 0 1 (by omega) (by kernel_rfl) (by kernel_rfl) (zL (zE (zA (zF (W_goto (thenQ_goto (jmpQ_goto ?_)))))))))))))))
     refine ⟨_, Or.inl (⟨rfl, [], 0, 1, (.slice none 0 0), rfl, rfl, by kernel_rfl, by kernel_rfl, by kernel_rfl, by kernel_rfl, Row.nil _ _ _ _ _, hb, hs, ?_, ?_, ?_, ?_, ?_, ?_⟩)⟩
     ·omega
     ·omega
     ·exact noB_succ (noB_zero _ _ _) (by assumption) (by assumption)
     ·rfl
     ·first | assumption | exact i4
     ·(simp only [List.length_append, List.length_cons, List.length_nil]; omega)
 ·rintro l m14 s12 w13 (⟨rfl, acc, fr, at_, v_3, hm, hds, f_0, f_3, f_4, f_5, r_3, hb, hs, i0, i1, i2, i3, i4, i5⟩ | ⟨rfl, acc, fr, at_, v_3, hm, hds, f_0, f_3, f_4, f_5, r_3, hb, hs, i0, i1, i2, i3, i4, i5, i6, i7⟩ | ⟨rfl, acc, fr, at_, v_3, hm, hds, f_0, f_3, f_4, f_5, r_3, hb, hs, i0, i1, i2, i3, i4, i5, i6⟩)
  ·skip
   refine ⟨_, rfl, ?_⟩
   refine yL 0 _ f_0 (yL 3 _ f_3 (yL 4 _ f_4 (yL 5 _ f_5 ?_)))
   clear f_0 f_3 f_4 f_5
   refine zF (zY (zA (zF (zF (zD (zJ (zJ (L_slen 9 s rfl Tryz.underlying9 (by kernel_rfl) (yE .i64 ((at_ : Nat) : Int) (((s).length : Nat) : Int) (at_ = (s).length) rfl (cmpN_eq at_ ((s).length)) (by kernel_rfl) (by kernel_rfl) ?_ ?_)))))))))
   ·intro h15
    replace h15 : at_ = (s).length := by omega
    refine zE (zA (zV (by kernel_rfl) (W_goto (thenQ_goto (jmpQ_goto ?_)))))
    refine ⟨_, ?_, Or.inr (Or.inr (⟨rfl, acc, fr, at_, v_3, rfl, hds, by kernel_rfl, by kernel_rfl, by kernel_rfl, by kernel_rfl, r_3, hb, hs, ?_, ?_, ?_, ?_, ?_, ?_, ?_⟩))⟩
    ·omega
    ·omega
    ·omega
    ·assumption
    ·assumption
    ·first | assumption | exact i4
    ·omega
    ·omega
   ·intro h16
    replace h16 : at_ ≠ (s).length := by omega
    refine zE (zA (zQ (by kernel_rfl) (zY (zA (zF (zF (zD (zJ (zJ ?_)))))))))
    have hz := xD s at_ (by omega); obtain ⟨c17, hc18⟩ := hz
    have := c17.toNat_lt
    refine L_sindex (k := .i64) s at_ c17 Tryz.underlying9 hc18 (by kernel_rfl) (by kernel_rfl) (yE .u8 ((c17.toNat : Nat) : Int) ((59 : Nat) : Int) (c17.toNat = 59) rfl (cmpN_eq c17.toNat 59) (by kernel_rfl) (by kernel_rfl) ?_ ?_)
    ·intro h19
     replace h19 : c17.toNat = 59 := by omega
     refine zE (zA (zV (by kernel_rfl) (W_goto (thenQ_goto (jmpQ_goto ?_)))))
     refine ⟨_, ?_, Or.inr (Or.inl (⟨rfl, acc, fr, at_, v_3, rfl, hds, by kernel_rfl, by kernel_rfl, by kernel_rfl, by kernel_rfl, r_3, hb, hs, ?_, ?_, ?_, ?_, ?_, ?_, ?_, ?_⟩))⟩
     ·omega
     ·omega
     ·omega
     ·assumption
     ·assumption
     ·first | assumption | exact i4
     ·omega
     ·exact ⟨_, by assumption, by assumption⟩
     ·omega
    ·intro h20
     replace h20 : c17.toNat ≠ 59 := by omega
     refine zE (zA (zQ (by kernel_rfl) (zY (zA (zF (zD (zJ (xH at_ 1 (by omega) (by kernel_rfl) (by kernel_rfl) (zL (zE (zA (zF (W_goto (thenQ_goto (jmpQ_goto ?_)))))))))))))))
     refine ⟨_, ?_, Or.inl (⟨rfl, acc, fr, (at_ + 1), v_3, rfl, hds, by kernel_rfl, by kernel_rfl, by kernel_rfl, by kernel_rfl, r_3, hb, hs, ?_, ?_, ?_, ?_, ?_, ?_⟩)⟩
     ·omega
     ·omega
     ·omega
     ·exact noB_succ i2 (by assumption) (by assumption)
     ·assumption
     ·first | assumption | exact i4
     ·omega
  ·skip
   refine ⟨_, rfl, ?_⟩
   refine yL 0 _ f_0 (yL 3 _ f_3 (yL 4 _ f_4 (yL 5 _ f_5 ?_)))
   clear f_0 f_3 f_4 f_5
   obtain ⟨c0, hc0, hc1⟩ := i6
   refine zF (zY (zA (zF (zD (zJ (zJ (zJ (zJ (L_sslice s fr at_ Tryz.underlying9 (by kernel_rfl) ⟨.i64, by kernel_rfl⟩ ⟨.i64, by kernel_rfl⟩ (by omega) (by omega) (yD 95 [(S (List.drop fr (List.take at_ s)))] (by kernel_rfl) (by kernel_rfl) (c_lines_trim (List.drop fr (List.take at_ s)) _ (by (simp only [List.length_drop, List.length_take]; omega))) ?_))))))))))
   rintro _ w21 ⟨rfl, hB22⟩
   replace hb := hb.trans (hB22.mono hs)
   replace hs := Nat.le_trans hs (hB22.size)
   replace r_3 := r_3.below hB22
   have := trm_len (List.drop fr (List.take at_ s))
   refine L_app el70 w.heap.size v_3 acc (trmF (List.drop fr (List.take at_ s))) hs r_3 (by omega) (by kernel_rfl) rfl rfl (by kernel_rfl) rfl (by kernel_rfl) (by kernel_rfl) ?_
   intro v24 w25 hr26 hg27 how28
   replace hb := hb.grown hg27 hs (fun k hk => (World.ownsRow.lt r_3 k hk).1)
   replace hs := Nat.le_trans hs (hg27.size)
   replace r_3 := hr26
   refine zL (zE (zA (zF (zD (zJ (xH at_ 1 (by omega) (by kernel_rfl) (by kernel_rfl) (zL (zE (zA (zF (zD (zJ (zL (zE (zA (zF (W_goto (thenQ_goto (jmpQ_goto ?_)))))))))))))))))))
   refine ⟨_, ?_, Or.inl (⟨rfl, (acc ++ [(trmF (List.drop fr (List.take at_ s)))]), (at_ + 1), (at_ + 1), v24, rfl, hds, by kernel_rfl, by kernel_rfl, by kernel_rfl, by kernel_rfl, r_3, hb, hs, ?_, ?_, ?_, ?_, ?_, ?_⟩)⟩
   ·omega
   ·omega
   ·omega
   ·exact noB_zero _ _ _
   ·exact fld_hit i2 i0 hc0 hc1 i3
   ·first | assumption | exact i4
   ·(simp only [List.length_append, List.length_cons, List.length_nil]; omega)
  ·skip
   refine ⟨_, rfl, ?_⟩
   refine yL 0 _ f_0 (yL 3 _ f_3 (yL 4 _ f_4 (yL 5 _ f_5 ?_)))
   clear f_0 f_3 f_4 f_5
   refine zF (zY (zA (zF (zD (zJ (zJ (zJ (L_ssfrom s fr Tryz.underlying9 (by kernel_rfl) ⟨.i64, by kernel_rfl⟩ (by omega) (yD 95 [(S (List.drop fr s))] (by kernel_rfl) (by kernel_rfl) (c_lines_trim (List.drop fr s) _ (by (simp only [List.length_drop, List.length_take]; omega))) ?_)))))))))
   rintro _ w29 ⟨rfl, hB30⟩
   replace hb := hb.trans (hB30.mono hs)
   replace hs := Nat.le_trans hs (hB30.size)
   replace r_3 := r_3.below hB30
   have := trm_len (List.drop fr s)
   refine L_app el70 w.heap.size v_3 acc (trmF (List.drop fr s)) hs r_3 (by omega) (by kernel_rfl) rfl rfl (by kernel_rfl) rfl (by kernel_rfl) (by kernel_rfl) ?_
   intro v32 w33 hr34 hg35 how36
   replace hb := hb.grown hg35 hs (fun k hk => (World.ownsRow.lt r_3 k hk).1)
   replace hs := Nat.le_trans hs (hg35.size)
   replace r_3 := hr34
   refine zL (zE (zA (yA (jmpQ_ret ?_))))
   refine zR [.tmp 2] [v32] rfl hds ⟨by kernel_rfl, trivial⟩ ?_
   have e51 : (acc ++ [(trmF (List.drop fr s))]) = fieldsF s := by exact fld_end i2 (by omega) i3 i4
   exact ⟨v32, rfl, r_3.cast e51, hb⟩
theorem c_lines_Cut (s : List UInt8) (w : World) (hs : s.length ≤ 1073741824) :
  Calls Tryz.prog 93 #[(S s)] w (Ret fun v w' => ∃ (q0 : Value), v = (.tuple #[q0, (S ((cutF s).2))]) ∧ Row w' w.heap.size 9 1 encStr q0 ((cutF s).1) ∧ Below w.heap.size w w') := by
 refine enter (args := [(S s)]) Tryz.func93 rfl (by kernel_rfl : _ = 17) (by kernel_rfl) ?_
 have hb := Below.refl w.heap.size w
 have hs : w.heap.size ≤ w.heap.size := Nat.le_refl _
 refine zF (zD (zL (zL (zE (zA (zF (zD (zJ (yD 94 [(S s), (S ([35] : List UInt8))] (by kernel_rfl) (by kernel_rfl) (c_strings_Cut s ([35] : List UInt8) _ (by first | omega | decide | rfl) (by first | omega | decide | rfl)) ?_)))))))))
 rintro _ w1 ⟨rfl, hB2⟩
 replace hb := hb.trans (hB2.mono hs)
 replace hs := Nat.le_trans hs (hB2.size)
 have := cutl_len s ([35] : List UInt8)
 refine zJ (zT (S ((Lib.cut s ([35] : List UInt8)).1)) (by kernel_rfl) (by kernel_rfl) (zT (S ((Lib.cut s ([35] : List UInt8)).2.1)) (by kernel_rfl) (by kernel_rfl) (zT (.bool ((Lib.cut s ([35] : List UInt8)).2.2)) (by kernel_rfl) (by kernel_rfl) (zL (zL (zL (zE (zA (zF (zD (zJ (yD 98 [(S ((Lib.cut s ([35] : List UInt8)).1))] (by kernel_rfl) (by kernel_rfl) (c_lines_fields ((Lib.cut s ([35] : List UInt8)).1) _ (by first | omega | decide | rfl)) ?_))))))))))))
 rintro q4 w5 ⟨_, rfl, r_q4, hB6⟩
 replace r_q4 := r_q4.base hs
 replace hb := hb.trans (hB6.mono hs)
 replace hs := Nat.le_trans hs (hB6.size)
 refine zJ (yD 95 [(S ((Lib.cut s ([35] : List UInt8)).2.1))] (by kernel_rfl) (by kernel_rfl) (c_lines_trim ((Lib.cut s ([35] : List UInt8)).2.1) _ (by first | omega | decide | rfl)) ?_)
 rintro _ w8 ⟨rfl, hB9⟩
 replace hb := hb.trans (hB9.mono hs)
 replace hs := Nat.le_trans hs (hB9.size)
 replace r_q4 := r_q4.below hB9
 have := trm_len ((Lib.cut s ([35] : List UInt8)).2.1)
 refine zL (zL (zE (zA (yA ?_))))
 refine zR [.tmp 2, .tmp 3] [q4, (S (trmF ((Lib.cut s ([35] : List UInt8)).2.1)))] rfl rfl ⟨by kernel_rfl, by kernel_rfl, trivial⟩ ?_
 have hE : ((trmF ((Lib.cut s ([35] : List UInt8)).2.1)) = (cutF s).2) ∧ (fieldsF ((Lib.cut s ([35] : List UInt8)).1) = (cutF s).1) := ⟨(by rfl), (by rfl)⟩
 exact ⟨q4, xJ (rfl) (congrArg S hE.1), r_q4.cast hE.2, hb⟩
theorem c_lines_named (s : List UInt8) (w : World) (hs : s.length ≤ 1073741824) :
  Calls Tryz.prog 97 #[(S s)] w (Ret fun v w' => v = (.bool (nameF s)) ∧ Below w.heap.size w w') := by
 refine enter (args := [(S s)]) Tryz.func97 rfl (by kernel_rfl : _ = 35) (by kernel_rfl) ?_
 have hb := Below.refl w.heap.size w
 have hs : w.heap.size ≤ w.heap.size := Nat.le_refl _
 refine zF (zD (zL (zE (zA (zF (zF (zD (zJ (L_range s Tryz.underlying9 (by kernel_rfl) ?_)))))))))
 intro b1 w2 hN3
 have g_it6 : w.heap.size ≤ b1 := by rw [hN3.num]; exact hs
 replace hb := hb.trans (hN3.below.mono hs)
 replace hs := Nat.le_trans hs (hN3.below.size)
 have o_it6 := hN3.here
 refine zE (zA (yU ?_))
 refine W_loop (fun m s0 w0 => ∃ (pos : Nat), (m = s.length - pos) ∧ (s0.ds = []) ∧ (s0.f 0 = (S s)) ∧ (s0.f 6 = (.pointer (some ⟨b1, 0, none⟩))) ∧ (w0.heap[b1]? = some (.stringIter ⟨(s).toArray⟩ pos)) ∧ (Below w.heap.size w w0) ∧ (w.heap.size ≤ w0.heap.size) ∧ (pos ≤ s.length) ∧ ((s.drop pos).all nmB = s.all nmB)) _ ⟨0, rfl, by kernel_rfl, by kernel_rfl, by kernel_rfl, o_it6, hb, hs, by omega, rfl⟩ ?_
 rintro m4 s5 w6 ⟨pos, hm, hds, f_0, f_6, o_it6, hb, hs, i1, i3⟩
 refine yL 0 _ f_0 (yL 6 _ f_6 ?_)
 clear f_0 f_6
 refine zF (zD ?_)
 rcases Nat.lt_or_ge pos (s).length with lt_it6 | ge_it6
 ·refine L_next s b1 pos (by kernel_rfl) o_it6 lt_it6 ?_
  intro c_it6 w7 ch_it6 hW8
  replace hb := hb.trans (hW8.below g_it6)
  replace hs := Nat.le_trans hs (Nat.le_of_eq hW8.size.symm)
  replace o_it6 := hW8.here
  have := dec_pos s pos; have := dec_fits s pos lt_it6; have := dec_le s pos
  have c_it6_0 : 0 ≤ c_it6 := by omega
  have c_it6_1 : c_it6 ≤ 2147483647 := by omega
  refine zT (.bool true) (by kernel_rfl) (by kernel_rfl) (zE (zA (zF (zV (by kernel_rfl) (zY (zA (yU (zF (zD (zT (.int .i32 c_it6) (by kernel_rfl) (by kernel_rfl) (zL (zE (zA (yU (zF (zF (zD (zJ (yE .i32 c_it6 65 (65 ≤ c_it6) rfl (cmp_ge c_it6 65) (by kernel_rfl) (by kernel_rfl) ?_ ?_)))))))))))))))))))
  ·intro h9
   replace h9 : 65 ≤ c_it6 := by omega
   refine zJ (zZ (by kernel_rfl) (zJ (zZ (by kernel_rfl) (yE .i32 c_it6 90 (c_it6 ≤ 90) rfl (cmp_le c_it6 90) (by kernel_rfl) (by kernel_rfl) ?_ ?_))))
   ·intro h10
    replace h10 : c_it6 ≤ 90 := by omega
    refine yS (by kernel_rfl) (zL (zE (zA (zV (by kernel_rfl) (zY (zA (zV (by kernel_rfl) (zY (zS (zS ?_))))))))))
    refine zA ⟨_, ?_, (pos + (dec s pos).2), rfl, hds, by kernel_rfl, by kernel_rfl, o_it6, hb, hs, ?_, ?_⟩
    ·omega
    ·omega
    ·exact nm_on lt_it6 (by omega) i3
   ·intro h11
    replace h11 : 90 < c_it6 := by omega
    refine yS (by kernel_rfl) (zL (zE (zA (zQ (by kernel_rfl) (zF (zD (zJ (yE .i32 c_it6 97 (97 ≤ c_it6) rfl (cmp_ge c_it6 97) (by kernel_rfl) (by kernel_rfl) ?_ ?_))))))))
    ·intro h12
     replace h12 : 97 ≤ c_it6 := by omega
     refine zJ (zZ (by kernel_rfl) (zJ (zZ (by kernel_rfl) (yE .i32 c_it6 122 (c_it6 ≤ 122) rfl (cmp_le c_it6 122) (by kernel_rfl) (by kernel_rfl) ?_ ?_))))
     ·intro h13
      replace h13 : c_it6 ≤ 122 := by omega
      refine yS (by kernel_rfl) (zL (zE (zA (zV (by kernel_rfl) (zY (zA (zV (by kernel_rfl) (zY (zS (zS ?_))))))))))
      refine zA ⟨_, ?_, (pos + (dec s pos).2), rfl, hds, by kernel_rfl, by kernel_rfl, o_it6, hb, hs, ?_, ?_⟩
      ·omega
      ·omega
      ·exact nm_on lt_it6 (by omega) i3
     ·intro h14
      replace h14 : 122 < c_it6 := by omega
      refine yS (by kernel_rfl) (zL (zE (zA (zQ (by kernel_rfl) (zF (zD (zJ (yE .i32 c_it6 48 (48 ≤ c_it6) rfl (cmp_ge c_it6 48) (by kernel_rfl) (by kernel_rfl) ?_ ?_))))))))
      ·intro h15
       replace h15 : 48 ≤ c_it6 := by omega
       refine zJ (zZ (by kernel_rfl) (zJ (zZ (by kernel_rfl) (yE .i32 c_it6 57 (c_it6 ≤ 57) rfl (cmp_le c_it6 57) (by kernel_rfl) (by kernel_rfl) ?_ ?_))))
       ·intro h16
        replace h16 : c_it6 ≤ 57 := by omega
        refine yS (by kernel_rfl) (zL (zE (zA (zV (by kernel_rfl) (zY (zA (zV (by kernel_rfl) (zY (zS (zS ?_))))))))))
        refine zA ⟨_, ?_, (pos + (dec s pos).2), rfl, hds, by kernel_rfl, by kernel_rfl, o_it6, hb, hs, ?_, ?_⟩
        ·omega
        ·omega
        ·exact nm_on lt_it6 (by omega) i3
       ·intro h17
        replace h17 : 57 < c_it6 := by omega
        refine yS (by kernel_rfl) (zL (zE (zA (zQ (by kernel_rfl) (zF (zD (zJ (yE .i32 c_it6 95 (c_it6 = 95) rfl (yW c_it6 95) (by kernel_rfl) (by kernel_rfl) ?_ ?_))))))))
        ·intro h18
         replace h18 : c_it6 = 95 := by omega
         refine zL (zE (zA (zV (by kernel_rfl) (zY (zA (zV (by kernel_rfl) (zY (zS (zS ?_)))))))))
         refine zA ⟨_, ?_, (pos + (dec s pos).2), rfl, hds, by kernel_rfl, by kernel_rfl, o_it6, hb, hs, ?_, ?_⟩
         ·omega
         ·omega
         ·exact nm_on lt_it6 (by omega) i3
        ·intro h19
         replace h19 : c_it6 ≠ 95 := by omega
         refine zL (zE (zA (zQ (by kernel_rfl) (zD (zJ (yE .i32 c_it6 45 (c_it6 = 45) rfl (yW c_it6 45) (by kernel_rfl) (by kernel_rfl) ?_ ?_))))))
         ·intro h20
          replace h20 : c_it6 = 45 := by omega
          refine zL (zE (zA (zV (by kernel_rfl) (zY (zS (zS ?_))))))
          refine zA ⟨_, ?_, (pos + (dec s pos).2), rfl, hds, by kernel_rfl, by kernel_rfl, o_it6, hb, hs, ?_, ?_⟩
          ·omega
          ·omega
          ·exact nm_on lt_it6 (by omega) i3
         ·intro h21
          replace h21 : c_it6 ≠ 45 := by omega
          refine zL (zE (zA (zQ (by kernel_rfl) (zF (zD (zL (zE (zA (yA (zX (zX (zM (zX (zM ?_))))))))))))))
          refine zR [.tmp 2] [(.bool false)] rfl hds ⟨by kernel_rfl, trivial⟩ ?_
          have e0 : false = nameF s := by exact (nm_off lt_it6 (by omega) i3).symm
          exact ⟨congrArg Value.bool e0, hb⟩
      ·intro h22
       replace h22 : c_it6 < 48 := by omega
       refine zJ (yF (by kernel_rfl) (yF (by kernel_rfl) (yR (by kernel_rfl) (zL (zE (zA (zQ (by kernel_rfl) (zF (zD (zJ (yE .i32 c_it6 95 (c_it6 = 95) rfl (yW c_it6 95) (by kernel_rfl) (by kernel_rfl) ?_ ?_)))))))))))
       ·intro h23
        replace h23 : c_it6 = 95 := by omega
        refine zL (zE (zA (zV (by kernel_rfl) (zY (zA (zV (by kernel_rfl) (zY (zS (zS ?_)))))))))
        refine zA ⟨_, ?_, (pos + (dec s pos).2), rfl, hds, by kernel_rfl, by kernel_rfl, o_it6, hb, hs, ?_, ?_⟩
        ·omega
        ·omega
        ·exact nm_on lt_it6 (by omega) i3
       ·intro h24
        replace h24 : c_it6 ≠ 95 := by omega
        refine zL (zE (zA (zQ (by kernel_rfl) (zD (zJ (yE .i32 c_it6 45 (c_it6 = 45) rfl (yW c_it6 45) (by kernel_rfl) (by kernel_rfl) ?_ ?_))))))
        ·intro h25
         replace h25 : c_it6 = 45 := by omega
         refine zL (zE (zA (zV (by kernel_rfl) (zY (zS (zS ?_))))))
         refine zA ⟨_, ?_, (pos + (dec s pos).2), rfl, hds, by kernel_rfl, by kernel_rfl, o_it6, hb, hs, ?_, ?_⟩
         ·omega
         ·omega
         ·exact nm_on lt_it6 (by omega) i3
        ·intro h26
         replace h26 : c_it6 ≠ 45 := by omega
         refine zL (zE (zA (zQ (by kernel_rfl) (zF (zD (zL (zE (zA (yA (zX (zX (zM (zX (zM ?_))))))))))))))
         refine zR [.tmp 2] [(.bool false)] rfl hds ⟨by kernel_rfl, trivial⟩ ?_
         have e0 : false = nameF s := by exact (nm_off lt_it6 (by omega) i3).symm
         exact ⟨congrArg Value.bool e0, hb⟩
    ·intro h27
     replace h27 : c_it6 < 97 := by omega
     refine zJ (yF (by kernel_rfl) (yF (by kernel_rfl) (yR (by kernel_rfl) (zL (zE (zA (zQ (by kernel_rfl) (zF (zD (zJ (yE .i32 c_it6 48 (48 ≤ c_it6) rfl (cmp_ge c_it6 48) (by kernel_rfl) (by kernel_rfl) ?_ ?_)))))))))))
     ·intro h28
      replace h28 : 48 ≤ c_it6 := by omega
      refine zJ (zZ (by kernel_rfl) (zJ (zZ (by kernel_rfl) (yE .i32 c_it6 57 (c_it6 ≤ 57) rfl (cmp_le c_it6 57) (by kernel_rfl) (by kernel_rfl) ?_ ?_))))
      ·intro h29
       replace h29 : c_it6 ≤ 57 := by omega
       refine yS (by kernel_rfl) (zL (zE (zA (zV (by kernel_rfl) (zY (zA (zV (by kernel_rfl) (zY (zS (zS ?_))))))))))
       refine zA ⟨_, ?_, (pos + (dec s pos).2), rfl, hds, by kernel_rfl, by kernel_rfl, o_it6, hb, hs, ?_, ?_⟩
       ·omega
       ·omega
       ·exact nm_on lt_it6 (by omega) i3
      ·intro h30
       replace h30 : 57 < c_it6 := by omega
       refine yS (by kernel_rfl) (zL (zE (zA (zQ (by kernel_rfl) (zF (zD (zJ (yE .i32 c_it6 95 (c_it6 = 95) rfl (yW c_it6 95) (by kernel_rfl) (by kernel_rfl) ?_ ?_))))))))
       ·intro h31
        replace h31 : c_it6 = 95 := by omega
        refine zL (zE (zA (zV (by kernel_rfl) (zY (zA (zV (by kernel_rfl) (zY (zS (zS ?_)))))))))
        refine zA ⟨_, ?_, (pos + (dec s pos).2), rfl, hds, by kernel_rfl, by kernel_rfl, o_it6, hb, hs, ?_, ?_⟩
        ·omega
        ·omega
        ·exact nm_on lt_it6 (by omega) i3
       ·intro h32
        replace h32 : c_it6 ≠ 95 := by omega
        refine zL (zE (zA (zQ (by kernel_rfl) (zD (zJ (yE .i32 c_it6 45 (c_it6 = 45) rfl (yW c_it6 45) (by kernel_rfl) (by kernel_rfl) ?_ ?_))))))
        ·intro h33
         replace h33 : c_it6 = 45 := by omega
         refine zL (zE (zA (zV (by kernel_rfl) (zY (zS (zS ?_))))))
         refine zA ⟨_, ?_, (pos + (dec s pos).2), rfl, hds, by kernel_rfl, by kernel_rfl, o_it6, hb, hs, ?_, ?_⟩
         ·omega
         ·omega
         ·exact nm_on lt_it6 (by omega) i3
        ·intro h34
         replace h34 : c_it6 ≠ 45 := by omega
         refine zL (zE (zA (zQ (by kernel_rfl) (zF (zD (zL (zE (zA (yA (zX (zX (zM (zX (zM ?_))))))))))))))
         refine zR [.tmp 2] [(.bool false)] rfl hds ⟨by kernel_rfl, trivial⟩ ?_
         have e0 : false = nameF s := by exact (nm_off lt_it6 (by omega) i3).symm
         exact ⟨congrArg Value.bool e0, hb⟩
     ·intro h35
      replace h35 : c_it6 < 48 := by omega
      refine zJ (yF (by kernel_rfl) (yF (by kernel_rfl) (yR (by kernel_rfl) (zL (zE (zA (zQ (by kernel_rfl) (zF (zD (zJ (yE .i32 c_it6 95 (c_it6 = 95) rfl (yW c_it6 95) (by kernel_rfl) (by kernel_rfl) ?_ ?_)))))))))))
      ·intro h36
       replace h36 : c_it6 = 95 := by omega
       refine zL (zE (zA (zV (by kernel_rfl) (zY (zA (zV (by kernel_rfl) (zY (zS (zS ?_)))))))))
       refine zA ⟨_, ?_, (pos + (dec s pos).2), rfl, hds, by kernel_rfl, by kernel_rfl, o_it6, hb, hs, ?_, ?_⟩
       ·omega
       ·omega
       ·exact nm_on lt_it6 (by omega) i3
      ·intro h37
       replace h37 : c_it6 ≠ 95 := by omega
       refine zL (zE (zA (zQ (by kernel_rfl) (zD (zJ (yE .i32 c_it6 45 (c_it6 = 45) rfl (yW c_it6 45) (by kernel_rfl) (by kernel_rfl) ?_ ?_))))))
       ·intro h38
        replace h38 : c_it6 = 45 := by omega
        refine zL (zE (zA (zV (by kernel_rfl) (zY (zS (zS ?_))))))
        refine zA ⟨_, ?_, (pos + (dec s pos).2), rfl, hds, by kernel_rfl, by kernel_rfl, o_it6, hb, hs, ?_, ?_⟩
        ·omega
        ·omega
        ·exact nm_on lt_it6 (by omega) i3
       ·intro h39
        replace h39 : c_it6 ≠ 45 := by omega
        refine zL (zE (zA (zQ (by kernel_rfl) (zF (zD (zL (zE (zA (yA (zX (zX (zM (zX (zM ?_))))))))))))))
        refine zR [.tmp 2] [(.bool false)] rfl hds ⟨by kernel_rfl, trivial⟩ ?_
        have e0 : false = nameF s := by exact (nm_off lt_it6 (by omega) i3).symm
        exact ⟨congrArg Value.bool e0, hb⟩
  ·intro h40
   replace h40 : c_it6 < 65 := by omega
   refine zJ (yF (by kernel_rfl) (yF (by kernel_rfl) (yR (by kernel_rfl) (zL (zE (zA (zQ (by kernel_rfl) (zF (zD (zJ (yE .i32 c_it6 97 (97 ≤ c_it6) rfl (cmp_ge c_it6 97) (by kernel_rfl) (by kernel_rfl) ?_ ?_)))))))))))
   ·intro h41
    replace h41 : 97 ≤ c_it6 := by omega
    refine zJ (zZ (by kernel_rfl) (zJ (zZ (by kernel_rfl) (yE .i32 c_it6 122 (c_it6 ≤ 122) rfl (cmp_le c_it6 122) (by kernel_rfl) (by kernel_rfl) ?_ ?_))))
    ·intro h42
     replace h42 : c_it6 ≤ 122 := by omega
     refine yS (by kernel_rfl) (zL (zE (zA (zV (by kernel_rfl) (zY (zA (zV (by kernel_rfl) (zY (zS (zS ?_))))))))))
     refine zA ⟨_, ?_, (pos + (dec s pos).2), rfl, hds, by kernel_rfl, by kernel_rfl, o_it6, hb, hs, ?_, ?_⟩
     ·omega
     ·omega
     ·exact nm_on lt_it6 (by omega) i3
    ·intro h43
     replace h43 : 122 < c_it6 := by omega
     refine yS (by kernel_rfl) (zL (zE (zA (zQ (by kernel_rfl) (zF (zD (zJ (yE .i32 c_it6 48 (48 ≤ c_it6) rfl (cmp_ge c_it6 48) (by kernel_rfl) (by kernel_rfl) ?_ ?_))))))))
     ·intro h44
      replace h44 : 48 ≤ c_it6 := by omega
      refine zJ (zZ (by kernel_rfl) (zJ (zZ (by kernel_rfl) (yE .i32 c_it6 57 (c_it6 ≤ 57) rfl (cmp_le c_it6 57) (by kernel_rfl) (by kernel_rfl) ?_ ?_))))
      ·intro h45
       replace h45 : c_it6 ≤ 57 := by omega
       refine yS (by kernel_rfl) (zL (zE (zA (zV (by kernel_rfl) (zY (zA (zV (by kernel_rfl) (zY (zS (zS ?_))))))))))
       refine zA ⟨_, ?_, (pos + (dec s pos).2), rfl, hds, by kernel_rfl, by kernel_rfl, o_it6, hb, hs, ?_, ?_⟩
       ·omega
       ·omega
       ·exact nm_on lt_it6 (by omega) i3
      ·intro h46
       replace h46 : 57 < c_it6 := by omega
       refine yS (by kernel_rfl) (zL (zE (zA (zQ (by kernel_rfl) (zF (zD (zJ (yE .i32 c_it6 95 (c_it6 = 95) rfl (yW c_it6 95) (by kernel_rfl) (by kernel_rfl) ?_ ?_))))))))
       ·intro h47
        replace h47 : c_it6 = 95 := by omega
        refine zL (zE (zA (zV (by kernel_rfl) (zY (zA (zV (by kernel_rfl) (zY (zS (zS ?_)))))))))
        refine zA ⟨_, ?_, (pos + (dec s pos).2), rfl, hds, by kernel_rfl, by kernel_rfl, o_it6, hb, hs, ?_, ?_⟩
        ·omega
        ·omega
        ·exact nm_on lt_it6 (by omega) i3
       ·intro h48
        replace h48 : c_it6 ≠ 95 := by omega
        refine zL (zE (zA (zQ (by kernel_rfl) (zD (zJ (yE .i32 c_it6 45 (c_it6 = 45) rfl (yW c_it6 45) (by kernel_rfl) (by kernel_rfl) ?_ ?_))))))
        ·intro h49
         replace h49 : c_it6 = 45 := by omega
         refine zL (zE (zA (zV (by kernel_rfl) (zY (zS (zS ?_))))))
         refine zA ⟨_, ?_, (pos + (dec s pos).2), rfl, hds, by kernel_rfl, by kernel_rfl, o_it6, hb, hs, ?_, ?_⟩
         ·omega
         ·omega
         ·exact nm_on lt_it6 (by omega) i3
        ·intro h50
         replace h50 : c_it6 ≠ 45 := by omega
         refine zL (zE (zA (zQ (by kernel_rfl) (zF (zD (zL (zE (zA (yA (zX (zX (zM (zX (zM ?_))))))))))))))
         refine zR [.tmp 2] [(.bool false)] rfl hds ⟨by kernel_rfl, trivial⟩ ?_
         have e0 : false = nameF s := by exact (nm_off lt_it6 (by omega) i3).symm
         exact ⟨congrArg Value.bool e0, hb⟩
     ·intro h51
      replace h51 : c_it6 < 48 := by omega
      refine zJ (yF (by kernel_rfl) (yF (by kernel_rfl) (yR (by kernel_rfl) (zL (zE (zA (zQ (by kernel_rfl) (zF (zD (zJ (yE .i32 c_it6 95 (c_it6 = 95) rfl (yW c_it6 95) (by kernel_rfl) (by kernel_rfl) ?_ ?_)))))))))))
      ·intro h52
       replace h52 : c_it6 = 95 := by omega
       refine zL (zE (zA (zV (by kernel_rfl) (zY (zA (zV (by kernel_rfl) (zY (zS (zS ?_)))))))))
       refine zA ⟨_, ?_, (pos + (dec s pos).2), rfl, hds, by kernel_rfl, by kernel_rfl, o_it6, hb, hs, ?_, ?_⟩
       ·omega
       ·omega
       ·exact nm_on lt_it6 (by omega) i3
      ·intro h53
       replace h53 : c_it6 ≠ 95 := by omega
       refine zL (zE (zA (zQ (by kernel_rfl) (zD (zJ (yE .i32 c_it6 45 (c_it6 = 45) rfl (yW c_it6 45) (by kernel_rfl) (by kernel_rfl) ?_ ?_))))))
       ·intro h54
        replace h54 : c_it6 = 45 := by omega
        refine zL (zE (zA (zV (by kernel_rfl) (zY (zS (zS ?_))))))
        refine zA ⟨_, ?_, (pos + (dec s pos).2), rfl, hds, by kernel_rfl, by kernel_rfl, o_it6, hb, hs, ?_, ?_⟩
        ·omega
        ·omega
        ·exact nm_on lt_it6 (by omega) i3
       ·intro h55
        replace h55 : c_it6 ≠ 45 := by omega
        refine zL (zE (zA (zQ (by kernel_rfl) (zF (zD (zL (zE (zA (yA (zX (zX (zM (zX (zM ?_))))))))))))))
        refine zR [.tmp 2] [(.bool false)] rfl hds ⟨by kernel_rfl, trivial⟩ ?_
        have e0 : false = nameF s := by exact (nm_off lt_it6 (by omega) i3).symm
        exact ⟨congrArg Value.bool e0, hb⟩
   ·intro h56
    replace h56 : c_it6 < 97 := by omega
    refine zJ (yF (by kernel_rfl) (yF (by kernel_rfl) (yR (by kernel_rfl) (zL (zE (zA (zQ (by kernel_rfl) (zF (zD (zJ (yE .i32 c_it6 48 (48 ≤ c_it6) rfl (cmp_ge c_it6 48) (by kernel_rfl) (by kernel_rfl) ?_ ?_)))))))))))
    ·intro h57
     replace h57 : 48 ≤ c_it6 := by omega
     refine zJ (zZ (by kernel_rfl) (zJ (zZ (by kernel_rfl) (yE .i32 c_it6 57 (c_it6 ≤ 57) rfl (cmp_le c_it6 57) (by kernel_rfl) (by kernel_rfl) ?_ ?_))))
     ·intro h58
      replace h58 : c_it6 ≤ 57 := by omega
      refine yS (by kernel_rfl) (zL (zE (zA (zV (by kernel_rfl) (zY (zA (zV (by kernel_rfl) (zY (zS (zS ?_))))))))))
      refine zA ⟨_, ?_, (pos + (dec s pos).2), rfl, hds, by kernel_rfl, by kernel_rfl, o_it6, hb, hs, ?_, ?_⟩
      ·omega
      ·omega
      ·exact nm_on lt_it6 (by omega) i3
     ·intro h59
      replace h59 : 57 < c_it6 := by omega
      refine yS (by kernel_rfl) (zL (zE (zA (zQ (by kernel_rfl) (zF (zD (zJ (yE .i32 c_it6 95 (c_it6 = 95) rfl (yW c_it6 95) (by kernel_rfl) (by kernel_rfl) ?_ ?_))))))))
      ·intro h60
       replace h60 : c_it6 = 95 := by omega
       refine zL (zE (zA (zV (by kernel_rfl) (zY (zA (zV (by kernel_rfl) (zY (zS (zS ?_)))))))))
       refine zA ⟨_, ?_, (pos + (dec s pos).2), rfl, hds, by kernel_rfl, by kernel_rfl, o_it6, hb, hs, ?_, ?_⟩
       ·omega
       ·omega
       ·exact nm_on lt_it6 (by omega) i3
      ·intro h61
       replace h61 : c_it6 ≠ 95 := by omega
       refine zL (zE (zA (zQ (by kernel_rfl) (zD (zJ (yE .i32 c_it6 45 (c_it6 = 45) rfl (yW c_it6 45) (by kernel_rfl) (by kernel_rfl) ?_ ?_))))))
       ·intro h62
        replace h62 : c_it6 = 45 := by omega
        refine zL (zE (zA (zV (by kernel_rfl) (zY (zS (zS ?_))))))
        refine zA ⟨_, ?_, (pos + (dec s pos).2), rfl, hds, by kernel_rfl, by kernel_rfl, o_it6, hb, hs, ?_, ?_⟩
        ·omega
        ·omega
        ·exact nm_on lt_it6 (by omega) i3
       ·intro h63
        replace h63 : c_it6 ≠ 45 := by omega
        refine zL (zE (zA (zQ (by kernel_rfl) (zF (zD (zL (zE (zA (yA (zX (zX (zM (zX (zM ?_))))))))))))))
        refine zR [.tmp 2] [(.bool false)] rfl hds ⟨by kernel_rfl, trivial⟩ ?_
        have e0 : false = nameF s := by exact (nm_off lt_it6 (by omega) i3).symm
        exact ⟨congrArg Value.bool e0, hb⟩
    ·intro h64
     replace h64 : c_it6 < 48 := by omega
     refine zJ (yF (by kernel_rfl) (yF (by kernel_rfl) (yR (by kernel_rfl) (zL (zE (zA (zQ (by kernel_rfl) (zF (zD (zJ (yE .i32 c_it6 95 (c_it6 = 95) rfl (yW c_it6 95) (by kernel_rfl) (by kernel_rfl) ?_ ?_)))))))))))
     ·intro h65
      replace h65 : c_it6 = 95 := by omega
      refine zL (zE (zA (zV (by kernel_rfl) (zY (zA (zV (by kernel_rfl) (zY (zS (zS ?_)))))))))
      refine zA ⟨_, ?_, (pos + (dec s pos).2), rfl, hds, by kernel_rfl, by kernel_rfl, o_it6, hb, hs, ?_, ?_⟩
      ·omega
      ·omega
      ·exact nm_on lt_it6 (by omega) i3
     ·intro h66
      replace h66 : c_it6 ≠ 95 := by omega
      refine zL (zE (zA (zQ (by kernel_rfl) (zD (zJ (yE .i32 c_it6 45 (c_it6 = 45) rfl (yW c_it6 45) (by kernel_rfl) (by kernel_rfl) ?_ ?_))))))
      ·intro h67
       replace h67 : c_it6 = 45 := by omega
       refine zL (zE (zA (zV (by kernel_rfl) (zY (zS (zS ?_))))))
       refine zA ⟨_, ?_, (pos + (dec s pos).2), rfl, hds, by kernel_rfl, by kernel_rfl, o_it6, hb, hs, ?_, ?_⟩
       ·omega
       ·omega
       ·exact nm_on lt_it6 (by omega) i3
      ·intro h68
       replace h68 : c_it6 ≠ 45 := by omega
       refine zL (zE (zA (zQ (by kernel_rfl) (zF (zD (zL (zE (zA (yA (zX (zX (zM (zX (zM ?_))))))))))))))
       refine zR [.tmp 2] [(.bool false)] rfl hds ⟨by kernel_rfl, trivial⟩ ?_
       have e0 : false = nameF s := by exact (nm_off lt_it6 (by omega) i3).symm
       exact ⟨congrArg Value.bool e0, hb⟩
 ·refine L_nextEnd s b1 pos (by kernel_rfl) o_it6 ge_it6 (zT (.bool false) (by kernel_rfl) (by kernel_rfl) (zE (zA (zF (zQ (by kernel_rfl) (W_exit (yQ (yQ (xT (zA (zF (zD (zJ (L_sne s ([] : List UInt8) rfl (by kernel_rfl) (by kernel_rfl) ?_ ?_))))))))))))))
  ·intro h69
   refine zL (zE (zA (yA ?_)))
   refine zR [.tmp 2] [(.bool true)] rfl hds ⟨by kernel_rfl, trivial⟩ ?_
   have e0 : true = nameF s := by (rw [nm_end (by omega) i3]; simp [*]; done)
   exact ⟨congrArg Value.bool e0, hb⟩
  ·intro h70
   refine zL (zE (zA (yA ?_)))
   refine zR [.tmp 2] [(.bool false)] rfl hds ⟨by kernel_rfl, trivial⟩ ?_
   have e0 : false = nameF s := by (rw [nm_end (by omega) i3]; simp [*]; done)
   exact ⟨congrArg Value.bool e0, hb⟩
theorem c_lines_pieces (s : List UInt8) (w : World) (hs : s.length ≤ 1073741824) :
  Calls Tryz.prog 91 #[(S s)] w (Ret fun v w' => ∃ (q0 : Value), v = q0 ∧ Row w' w.heap.size 164 3 encPc q0 (pcsI s) ∧ Below w.heap.size w w') := by
 refine enter (args := [(S s)]) Tryz.func91 rfl (by kernel_rfl : _ = 53) (by kernel_rfl) ?_
 have hb := Below.refl w.heap.size w
 have hs : w.heap.size ≤ w.heap.size := Nat.le_refl _
 have hml := mark_len s
 refine zF (zD (zL (zE (zA (zF (zD (zL (zE (zA (zF (zD (zL (zE (zA (zF (zF (zD (zJ (yD 96 [(S s), (S ([239, 187, 191] : List UInt8))] (by kernel_rfl) (by kernel_rfl) (c_strings_HasPrefix s ([239, 187, 191] : List UInt8) _ ) ?_)))))))))))))))))))
 rintro _ w1 ⟨rfl, hB2⟩
 replace hb := hb.trans (hB2.mono hs)
 replace hs := Nat.le_trans hs (hB2.size)
 refine xK (hpB s ([239, 187, 191] : List UInt8)) ?_ ?_
 ·intro h4
  have := hp_len h4; simp only [List.length_cons, List.length_nil] at this
  refine zE (zA (zV (by kernel_rfl) (zD (zL (zE (zA (yU ?_)))))))
  refine W_loop (fun m s0 w0 => ∃ (a : Int) (acc : List (Int × Int × Int)) (v_3 : Value), (m = s.length - a.toNat) ∧ (s0.ds = []) ∧ (s0.f 0 = (S s)) ∧ (s0.f 3 = v_3) ∧ (s0.f 4 = (.int .i64 a)) ∧ (Row w0 w.heap.size 164 3 encPc v_3 acc) ∧ (Below w.heap.size w w0) ∧ (w.heap.size ≤ w0.heap.size) ∧ (0 ≤ a) ∧ (a ≤ s.length) ∧ (acc.length ≤ a.toNat) ∧ (acc ++ (pcsFrom s a.toNat a.toNat).map toI = pcsI s)) _ ⟨3, [], (.slice none 0 0), rfl, by kernel_rfl, by kernel_rfl, by kernel_rfl, by kernel_rfl, Row.nil _ _ _ _ _, hb, hs, by omega, by omega, (by simp), (by simp [pcsI, markN, markT, *])⟩ ?_
  rintro m5 s6 w7 ⟨a, acc, v_3, hm, hds, f_0, f_3, f_4, r_3, hb, hs, i1, i2, i4, i3⟩
  refine yL 0 _ f_0 (yL 3 _ f_3 (yL 4 _ f_4 ?_))
  clear f_0 f_3 f_4
  have hdl : (List.drop a.toNat s).length = s.length - a.toNat := List.length_drop
  refine yU (zF (zD (zJ (zJ (L_ssfrom s ((a).toNat) Tryz.underlying9 (by kernel_rfl) (toNat_val a .i64 (by kernel_rfl) (by omega)) (by omega) (yD 127 [(S (List.drop ((a).toNat) s)), (.int .u8 10)] (by kernel_rfl) (by kernel_rfl) (c_strings_IndexByte (List.drop ((a).toNat) s) 10 _ ) ?_))))))
  rintro _ w8 ⟨rfl, hB9⟩
  replace hb := hb.trans (hB9.mono hs)
  replace hs := Nat.le_trans hs (hB9.size)
  replace r_3 := r_3.below hB9
  have := ib_range (List.drop ((a).toNat) s) 10
  refine zL (zE (zA (zF (zF (zD (zJ (yE .i64 (ibF (List.drop ((a).toNat) s) 10) 0 ((ibF (List.drop ((a).toNat) s) 10) < 0) rfl (cmp_lt (ibF (List.drop ((a).toNat) s) 10) 0) (by kernel_rfl) (by kernel_rfl) ?_ ?_)))))))
  ·intro h11
   replace h11 : (ibF (List.drop ((a).toNat) s) 10) < 0 := by omega
   refine zE (zA (zV (by kernel_rfl) (zF (zD (zJ (zJ (zJ (L_slen 9 s rfl Tryz.underlying9 (by kernel_rfl) (zJ (L_slen 9 s rfl Tryz.underlying9 (by kernel_rfl) (zT (Value.agg #[(.int .i64 a), (.int .i64 (((s).length : Nat) : Int)), (.int .i64 (((s).length : Nat) : Int))]) (by kernel_rfl) (by kernel_rfl) (L_app el161 w.heap.size v_3 acc (a, (((s).length : Nat) : Int), (((s).length : Nat) : Int)) hs r_3 (by omega) (by kernel_rfl) rfl rfl (by kernel_rfl) rfl (by kernel_rfl) (by kernel_rfl) ?_))))))))))))
   intro v12 w13 hr14 hg15 how16
   replace hb := hb.grown hg15 hs (fun k hk => (World.ownsRow.lt r_3 k hk).1)
   replace hs := Nat.le_trans hs (hg15.size)
   replace r_3 := hr14
   refine zL (zE (zA (yA (zM (zX (zM (zX ?_)))))))
   refine zR [.tmp 2] [v12] rfl hds ⟨by kernel_rfl, trivial⟩ ?_
   have e51 : (acc ++ [(a, (((s).length : Nat) : Int), (((s).length : Nat) : Int))]) = pcsI s := by exact pcsZ_end i1 i2 (by omega) i3
   exact ⟨v12, rfl, r_3.cast e51, hb⟩
  ·intro h17
   replace h17 : 0 ≤ (ibF (List.drop ((a).toNat) s) 10) := by omega
   refine zE (zA (zQ (by kernel_rfl) (zY (zA (zF (zD (zJ (zJ (zJ (xU a (ibF (List.drop ((a).toNat) s) 10) (a + (ibF (List.drop ((a).toNat) s) 10)) rfl (by kernel_rfl) (by kernel_rfl) (xL _ (by simp only [arithZ]; omega) (by simp only [arithZ]; omega)) (zJ (zJ (xU a (ibF (List.drop ((a).toNat) s) 10) (a + (ibF (List.drop ((a).toNat) s) 10)) rfl (by kernel_rfl) (by kernel_rfl) (xL _ (by simp only [arithZ]; omega) (by simp only [arithZ]; omega)) (xU (a + (ibF (List.drop ((a).toNat) s) 10)) 1 ((a + (ibF (List.drop ((a).toNat) s) 10)) + 1) rfl (by kernel_rfl) (by kernel_rfl) (xL _ (by simp only [arithZ]; omega) (by simp only [arithZ]; omega)) (zT (Value.agg #[(.int .i64 a), (.int .i64 (a + (ibF (List.drop ((a).toNat) s) 10))), (.int .i64 ((a + (ibF (List.drop ((a).toNat) s) 10)) + 1))]) (by kernel_rfl) (by kernel_rfl) (yX (fun b => .pointer (some ⟨b, 0, none⟩)) (.cells [(.int .i64 0), (.int .i64 0), (.int .i64 0)].toArray 164 (0, 0)) (by kernel_rfl) (by kernel_rfl) ?_))))))))))))))))
   intro b18 w19 hN20
   have g_x6 : w.heap.size ≤ b18 := by rw [hN20.num]; exact hs
   have nb_o_x6_r_3 := r_3.new_ne hN20
   replace hb := hb.trans (hN20.below.mono hs)
   replace hs := Nat.le_trans hs (hN20.below.size)
   replace r_3 := r_3.below hN20.below
   have o_x6 := hN20.here
   refine yT b18 0 [(.int .i64 a), (.int .i64 (a + (ibF (List.drop ((a).toNat) s) 10))), (.int .i64 ((a + (ibF (List.drop ((a).toNat) s) 10)) + 1))] [(.int .i64 0), (.int .i64 0), (.int .i64 0)] [(.int .i64 a), (.int .i64 (a + (ibF (List.drop ((a).toNat) s) 10))), (.int .i64 ((a + (ibF (List.drop ((a).toNat) s) 10)) + 1))] 164 (by kernel_rfl) (by kernel_rfl) rfl (by kernel_rfl) o_x6 (by kernel_rfl) rfl ?_
   intro w21 hW22
   replace hb := hb.trans (hW22.below g_x6)
   replace hs := Nat.le_trans hs (Nat.le_of_eq hW22.size.symm)
   replace r_3 := r_3.wrote hW22 nb_o_x6_r_3
   replace o_x6 := hW22.here
   refine zE (zA (zF (zF (zD (zJ (yE .i64 (ibF (List.drop ((a).toNat) s) 10) 0 (0 < (ibF (List.drop ((a).toNat) s) 10)) rfl (cmp_gt (ibF (List.drop ((a).toNat) s) 10) 0) (by kernel_rfl) (by kernel_rfl) ?_ ?_))))))
   ·intro h23
    replace h23 : 0 < (ibF (List.drop ((a).toNat) s) 10) := by omega
    refine zJ (zZ (by kernel_rfl) (zJ (zZ (by kernel_rfl) (zT (.pointer (some ⟨b18, 1, none⟩)) (by kernel_rfl) (by kernel_rfl) (zZ (by kernel_rfl) (yC b18 1 (.int .i64 (a + (ibF (List.drop ((a).toNat) s) 10))) (by kernel_rfl) (by kernel_rfl) (zP o_x6 rfl) (zZ (by kernel_rfl) (xU (a + (ibF (List.drop ((a).toNat) s) 10)) 1 ((a + (ibF (List.drop ((a).toNat) s) 10)) - 1) rfl (by kernel_rfl) (by kernel_rfl) (xL _ (by simp only [arithZ]; omega) (by simp only [arithZ]; omega)) (zZ (by kernel_rfl) ?_)))))))))
    have hz := xD s (((a + (ibF (List.drop ((a).toNat) s) 10)) - 1).toNat) (by omega); obtain ⟨c24, hc25⟩ := hz
    have := c24.toNat_lt
    refine L_sindexZ (k := .i64) s ((a + (ibF (List.drop ((a).toNat) s) 10)) - 1) (((a + (ibF (List.drop ((a).toNat) s) 10)) - 1).toNat) c24 (by omega) Tryz.underlying9 hc25 (by kernel_rfl) (by kernel_rfl) (zZ (by kernel_rfl) (yE .u8 ((c24.toNat : Nat) : Int) ((13 : Nat) : Int) (c24.toNat = 13) rfl (cmpN_eq c24.toNat 13) (by kernel_rfl) (by kernel_rfl) ?_ ?_))
    ·intro h26
     replace h26 : c24.toNat = 13 := by omega
     refine yS (by kernel_rfl) (zE (zA (zV (by kernel_rfl) (zD (zT (.pointer (some ⟨b18, 1, none⟩)) (by kernel_rfl) (by kernel_rfl) (yC b18 1 (.int .i64 (a + (ibF (List.drop ((a).toNat) s) 10))) (by kernel_rfl) (by kernel_rfl) (zP o_x6 rfl) (xU (a + (ibF (List.drop ((a).toNat) s) 10)) 1 ((a + (ibF (List.drop ((a).toNat) s) 10)) - 1) rfl (by kernel_rfl) (by kernel_rfl) (xL _ (by simp only [arithZ]; omega) (by simp only [arithZ]; omega)) (zT (.pointer (some ⟨b18, 1, none⟩)) (by kernel_rfl) (by kernel_rfl) (yZ b18 1 (.int .i64 ((a + (ibF (List.drop ((a).toNat) s) 10)) - 1)) [(.int .i64 a), (.int .i64 (a + (ibF (List.drop ((a).toNat) s) 10))), (.int .i64 ((a + (ibF (List.drop ((a).toNat) s) 10)) + 1))] [(.int .i64 a), (.int .i64 ((a + (ibF (List.drop ((a).toNat) s) 10)) - 1)), (.int .i64 ((a + (ibF (List.drop ((a).toNat) s) 10)) + 1))] 164 (by kernel_rfl) (by kernel_rfl) rfl (by kernel_rfl) o_x6 (by simp) rfl ?_)))))))))
     intro w27 hW28
     replace hb := hb.trans (hW28.below g_x6)
     replace hs := Nat.le_trans hs (Nat.le_of_eq hW28.size.symm)
     replace r_3 := r_3.wrote hW28 nb_o_x6_r_3
     replace o_x6 := hW28.here
     refine zE (zA (zF (zD (zJ (xA b18 0 [(.int .i64 a), (.int .i64 ((a + (ibF (List.drop ((a).toNat) s) 10)) - 1)), (.int .i64 ((a + (ibF (List.drop ((a).toNat) s) 10)) + 1))] (by kernel_rfl) (by kernel_rfl) (by kernel_rfl) (yP o_x6 0 (by kernel_rfl)) (L_app el161 w.heap.size v_3 acc (a, ((a + (ibF (List.drop ((a).toNat) s) 10)) - 1), ((a + (ibF (List.drop ((a).toNat) s) 10)) + 1)) hs r_3 (by omega) (by kernel_rfl) rfl rfl (by kernel_rfl) rfl (by kernel_rfl) (by kernel_rfl) ?_))))))
     intro v29 w30 hr31 hg32 how33
     have nc_o_x6 := ownb_app how33 nb_o_x6_r_3 (zK o_x6)
     replace hb := hb.grown hg32 hs (fun k hk => (World.ownsRow.lt r_3 k hk).1)
     replace hs := Nat.le_trans hs (hg32.size)
     replace o_x6 := yB o_x6 hg32 nb_o_x6_r_3
     have nb_o_x6_r_3 := nc_o_x6
     replace r_3 := hr31
     refine zL (zE (zA (zD (zT (.pointer (some ⟨b18, 2, none⟩)) (by kernel_rfl) (by kernel_rfl) (yC b18 2 (.int .i64 ((a + (ibF (List.drop ((a).toNat) s) 10)) + 1)) (by kernel_rfl) (by kernel_rfl) (zP o_x6 rfl) (zL (zE (zS ?_))))))))
     refine zA ⟨_, ?_, ((a + (ibF (List.drop ((a).toNat) s) 10)) + 1), (acc ++ [(a, ((a + (ibF (List.drop ((a).toNat) s) 10)) - 1), ((a + (ibF (List.drop ((a).toNat) s) 10)) + 1))]), v29, rfl, hds, by kernel_rfl, by kernel_rfl, by kernel_rfl, r_3, hb, hs, ?_, ?_, ?_, ?_⟩
     ·omega
     ·omega
     ·omega
     ·simp only [List.length_append, List.length_cons, List.length_nil]; omega
     ·exact pcsZ_step i1 rfl (by omega) (.inl ⟨rfl, by omega, _, by assumption, by assumption⟩) i3
    ·intro h34
     replace h34 : c24.toNat ≠ 13 := by omega
     refine yS (by kernel_rfl) (zE (zA (zQ (by kernel_rfl) (zY (zA (zF (zD (zJ (xA b18 0 [(.int .i64 a), (.int .i64 (a + (ibF (List.drop ((a).toNat) s) 10))), (.int .i64 ((a + (ibF (List.drop ((a).toNat) s) 10)) + 1))] (by kernel_rfl) (by kernel_rfl) (by kernel_rfl) (yP o_x6 0 (by kernel_rfl)) (L_app el161 w.heap.size v_3 acc (a, (a + (ibF (List.drop ((a).toNat) s) 10)), ((a + (ibF (List.drop ((a).toNat) s) 10)) + 1)) hs r_3 (by omega) (by kernel_rfl) rfl rfl (by kernel_rfl) rfl (by kernel_rfl) (by kernel_rfl) ?_))))))))))
     intro v35 w36 hr37 hg38 how39
     have nc_o_x6 := ownb_app how39 nb_o_x6_r_3 (zK o_x6)
     replace hb := hb.grown hg38 hs (fun k hk => (World.ownsRow.lt r_3 k hk).1)
     replace hs := Nat.le_trans hs (hg38.size)
     replace o_x6 := yB o_x6 hg38 nb_o_x6_r_3
     have nb_o_x6_r_3 := nc_o_x6
     replace r_3 := hr37
     refine zL (zE (zA (zD (zT (.pointer (some ⟨b18, 2, none⟩)) (by kernel_rfl) (by kernel_rfl) (yC b18 2 (.int .i64 ((a + (ibF (List.drop ((a).toNat) s) 10)) + 1)) (by kernel_rfl) (by kernel_rfl) (zP o_x6 rfl) (zL (zE (zS ?_))))))))
     refine zA ⟨_, ?_, ((a + (ibF (List.drop ((a).toNat) s) 10)) + 1), (acc ++ [(a, (a + (ibF (List.drop ((a).toNat) s) 10)), ((a + (ibF (List.drop ((a).toNat) s) 10)) + 1))]), v35, rfl, hds, by kernel_rfl, by kernel_rfl, by kernel_rfl, r_3, hb, hs, ?_, ?_, ?_, ?_⟩
     ·omega
     ·omega
     ·omega
     ·simp only [List.length_append, List.length_cons, List.length_nil]; omega
     ·exact pcsZ_step i1 rfl (by omega) (.inr ⟨rfl, .inr ⟨_, by assumption, by assumption⟩⟩) i3
   ·intro h40
    replace h40 : (ibF (List.drop ((a).toNat) s) 10) ≤ 0 := by omega
    refine zJ (yF (by kernel_rfl) (yF (by kernel_rfl) (yF (by kernel_rfl) (yF (by kernel_rfl) (yF (by kernel_rfl) (yF (by kernel_rfl) (yR (by kernel_rfl) (zE (zA (zQ (by kernel_rfl) (zY (zA (zF (zD (zJ (xA b18 0 [(.int .i64 a), (.int .i64 (a + (ibF (List.drop ((a).toNat) s) 10))), (.int .i64 ((a + (ibF (List.drop ((a).toNat) s) 10)) + 1))] (by kernel_rfl) (by kernel_rfl) (by kernel_rfl) (yP o_x6 0 (by kernel_rfl)) (L_app el161 w.heap.size v_3 acc (a, (a + (ibF (List.drop ((a).toNat) s) 10)), ((a + (ibF (List.drop ((a).toNat) s) 10)) + 1)) hs r_3 (by omega) (by kernel_rfl) rfl rfl (by kernel_rfl) rfl (by kernel_rfl) (by kernel_rfl) ?_)))))))))))))))))
    intro v41 w42 hr43 hg44 how45
    have nc_o_x6 := ownb_app how45 nb_o_x6_r_3 (zK o_x6)
    replace hb := hb.grown hg44 hs (fun k hk => (World.ownsRow.lt r_3 k hk).1)
    replace hs := Nat.le_trans hs (hg44.size)
    replace o_x6 := yB o_x6 hg44 nb_o_x6_r_3
    have nb_o_x6_r_3 := nc_o_x6
    replace r_3 := hr43
    refine zL (zE (zA (zD (zT (.pointer (some ⟨b18, 2, none⟩)) (by kernel_rfl) (by kernel_rfl) (yC b18 2 (.int .i64 ((a + (ibF (List.drop ((a).toNat) s) 10)) + 1)) (by kernel_rfl) (by kernel_rfl) (zP o_x6 rfl) (zL (zE (zS ?_))))))))
    refine zA ⟨_, ?_, ((a + (ibF (List.drop ((a).toNat) s) 10)) + 1), (acc ++ [(a, (a + (ibF (List.drop ((a).toNat) s) 10)), ((a + (ibF (List.drop ((a).toNat) s) 10)) + 1))]), v41, rfl, hds, by kernel_rfl, by kernel_rfl, by kernel_rfl, r_3, hb, hs, ?_, ?_, ?_, ?_⟩
    ·omega
    ·omega
    ·omega
    ·simp only [List.length_append, List.length_cons, List.length_nil]; omega
    ·exact pcsZ_step i1 rfl (by omega) (.inr ⟨rfl, .inl (by omega)⟩) i3
 ·intro h46
  refine zE (zA (zQ (by kernel_rfl) (zY (zA (yU ?_)))))
  refine W_loop (fun m s0 w0 => ∃ (a : Int) (acc : List (Int × Int × Int)) (v_3 : Value), (m = s.length - a.toNat) ∧ (s0.ds = []) ∧ (s0.f 0 = (S s)) ∧ (s0.f 3 = v_3) ∧ (s0.f 4 = (.int .i64 a)) ∧ (Row w0 w.heap.size 164 3 encPc v_3 acc) ∧ (Below w.heap.size w w0) ∧ (w.heap.size ≤ w0.heap.size) ∧ (0 ≤ a) ∧ (a ≤ s.length) ∧ (acc.length ≤ a.toNat) ∧ (acc ++ (pcsFrom s a.toNat a.toNat).map toI = pcsI s)) _ ⟨0, [], (.slice none 0 0), rfl, by kernel_rfl, by kernel_rfl, by kernel_rfl, by kernel_rfl, Row.nil _ _ _ _ _, hb, hs, by omega, by omega, (by simp), (by simp [pcsI, markN, markT, *])⟩ ?_
  rintro m47 s48 w49 ⟨a, acc, v_3, hm, hds, f_0, f_3, f_4, r_3, hb, hs, i1, i2, i4, i3⟩
  refine yL 0 _ f_0 (yL 3 _ f_3 (yL 4 _ f_4 ?_))
  clear f_0 f_3 f_4
  have hdl : (List.drop a.toNat s).length = s.length - a.toNat := List.length_drop
  refine yU (zF (zD (zJ (zJ (L_ssfrom s ((a).toNat) Tryz.underlying9 (by kernel_rfl) (toNat_val a .i64 (by kernel_rfl) (by omega)) (by omega) (yD 127 [(S (List.drop ((a).toNat) s)), (.int .u8 10)] (by kernel_rfl) (by kernel_rfl) (c_strings_IndexByte (List.drop ((a).toNat) s) 10 _ ) ?_))))))
  rintro _ w50 ⟨rfl, hB51⟩
  replace hb := hb.trans (hB51.mono hs)
  replace hs := Nat.le_trans hs (hB51.size)
  replace r_3 := r_3.below hB51
  have := ib_range (List.drop ((a).toNat) s) 10
  refine zL (zE (zA (zF (zF (zD (zJ (yE .i64 (ibF (List.drop ((a).toNat) s) 10) 0 ((ibF (List.drop ((a).toNat) s) 10) < 0) rfl (cmp_lt (ibF (List.drop ((a).toNat) s) 10) 0) (by kernel_rfl) (by kernel_rfl) ?_ ?_)))))))
  ·intro h53
   replace h53 : (ibF (List.drop ((a).toNat) s) 10) < 0 := by omega
   refine zE (zA (zV (by kernel_rfl) (zF (zD (zJ (zJ (zJ (L_slen 9 s rfl Tryz.underlying9 (by kernel_rfl) (zJ (L_slen 9 s rfl Tryz.underlying9 (by kernel_rfl) (zT (Value.agg #[(.int .i64 a), (.int .i64 (((s).length : Nat) : Int)), (.int .i64 (((s).length : Nat) : Int))]) (by kernel_rfl) (by kernel_rfl) (L_app el161 w.heap.size v_3 acc (a, (((s).length : Nat) : Int), (((s).length : Nat) : Int)) hs r_3 (by omega) (by kernel_rfl) rfl rfl (by kernel_rfl) rfl (by kernel_rfl) (by kernel_rfl) ?_))))))))))))
   intro v54 w55 hr56 hg57 how58
   replace hb := hb.grown hg57 hs (fun k hk => (World.ownsRow.lt r_3 k hk).1)
   replace hs := Nat.le_trans hs (hg57.size)
   replace r_3 := hr56
   refine zL (zE (zA (yA (zM (zX (zM (zX ?_)))))))
   refine zR [.tmp 2] [v54] rfl hds ⟨by kernel_rfl, trivial⟩ ?_
   have e51 : (acc ++ [(a, (((s).length : Nat) : Int), (((s).length : Nat) : Int))]) = pcsI s := by exact pcsZ_end i1 i2 (by omega) i3
   exact ⟨v54, rfl, r_3.cast e51, hb⟩
  ·intro h59
   replace h59 : 0 ≤ (ibF (List.drop ((a).toNat) s) 10) := by omega
   refine zE (zA (zQ (by kernel_rfl) (zY (zA (zF (zD (zJ (zJ (zJ (xU a (ibF (List.drop ((a).toNat) s) 10) (a + (ibF (List.drop ((a).toNat) s) 10)) rfl (by kernel_rfl) (by kernel_rfl) (xL _ (by simp only [arithZ]; omega) (by simp only [arithZ]; omega)) (zJ (zJ (xU a (ibF (List.drop ((a).toNat) s) 10) (a + (ibF (List.drop ((a).toNat) s) 10)) rfl (by kernel_rfl) (by kernel_rfl) (xL _ (by simp only [arithZ]; omega) (by simp only [arithZ]; omega)) (xU (a + (ibF (List.drop ((a).toNat) s) 10)) 1 ((a + (ibF (List.drop ((a).toNat) s) 10)) + 1) rfl (by kernel_rfl) (by kernel_rfl) (xL _ (by simp only [arithZ]; omega) (by simp only [arithZ]; omega)) (zT (Value.agg #[(.int .i64 a), (.int .i64 (a + (ibF (List.drop ((a).toNat) s) 10))), (.int .i64 ((a + (ibF (List.drop ((a).toNat) s) 10)) + 1))]) (by kernel_rfl) (by kernel_rfl) (yX (fun b => .pointer (some ⟨b, 0, none⟩)) (.cells [(.int .i64 0), (.int .i64 0), (.int .i64 0)].toArray 164 (0, 0)) (by kernel_rfl) (by kernel_rfl) ?_))))))))))))))))
   intro b60 w61 hN62
   have g_x6 : w.heap.size ≤ b60 := by rw [hN62.num]; exact hs
   have nb_o_x6_r_3 := r_3.new_ne hN62
   replace hb := hb.trans (hN62.below.mono hs)
   replace hs := Nat.le_trans hs (hN62.below.size)
   replace r_3 := r_3.below hN62.below
   have o_x6 := hN62.here
   refine yT b60 0 [(.int .i64 a), (.int .i64 (a + (ibF (List.drop ((a).toNat) s) 10))), (.int .i64 ((a + (ibF (List.drop ((a).toNat) s) 10)) + 1))] [(.int .i64 0), (.int .i64 0), (.int .i64 0)] [(.int .i64 a), (.int .i64 (a + (ibF (List.drop ((a).toNat) s) 10))), (.int .i64 ((a + (ibF (List.drop ((a).toNat) s) 10)) + 1))] 164 (by kernel_rfl) (by kernel_rfl) rfl (by kernel_rfl) o_x6 (by kernel_rfl) rfl ?_
   intro w63 hW64
   replace hb := hb.trans (hW64.below g_x6)
   replace hs := Nat.le_trans hs (Nat.le_of_eq hW64.size.symm)
   replace r_3 := r_3.wrote hW64 nb_o_x6_r_3
   replace o_x6 := hW64.here
   refine zE (zA (zF (zF (zD (zJ (yE .i64 (ibF (List.drop ((a).toNat) s) 10) 0 (0 < (ibF (List.drop ((a).toNat) s) 10)) rfl (cmp_gt (ibF (List.drop ((a).toNat) s) 10) 0) (by kernel_rfl) (by kernel_rfl) ?_ ?_))))))
   ·intro h65
    replace h65 : 0 < (ibF (List.drop ((a).toNat) s) 10) := by omega
    refine zJ (zZ (by kernel_rfl) (zJ (zZ (by kernel_rfl) (zT (.pointer (some ⟨b60, 1, none⟩)) (by kernel_rfl) (by kernel_rfl) (zZ (by kernel_rfl) (yC b60 1 (.int .i64 (a + (ibF (List.drop ((a).toNat) s) 10))) (by kernel_rfl) (by kernel_rfl) (zP o_x6 rfl) (zZ (by kernel_rfl) (xU (a + (ibF (List.drop ((a).toNat) s) 10)) 1 ((a + (ibF (List.drop ((a).toNat) s) 10)) - 1) rfl (by kernel_rfl) (by kernel_rfl) (xL _ (by simp only [arithZ]; omega) (by simp only [arithZ]; omega)) (zZ (by kernel_rfl) ?_)))))))))
    have hz := xD s (((a + (ibF (List.drop ((a).toNat) s) 10)) - 1).toNat) (by omega); obtain ⟨c66, hc67⟩ := hz
    have := c66.toNat_lt
    refine L_sindexZ (k := .i64) s ((a + (ibF (List.drop ((a).toNat) s) 10)) - 1) (((a + (ibF (List.drop ((a).toNat) s) 10)) - 1).toNat) c66 (by omega) Tryz.underlying9 hc67 (by kernel_rfl) (by kernel_rfl) (zZ (by kernel_rfl) (yE .u8 ((c66.toNat : Nat) : Int) ((13 : Nat) : Int) (c66.toNat = 13) rfl (cmpN_eq c66.toNat 13) (by kernel_rfl) (by kernel_rfl) ?_ ?_))
    ·intro h68
     replace h68 : c66.toNat = 13 := by omega
     refine yS (by kernel_rfl) (zE (zA (zV (by kernel_rfl) (zD (zT (.pointer (some ⟨b60, 1, none⟩)) (by kernel_rfl) (by kernel_rfl) (yC b60 1 (.int .i64 (a + (ibF (List.drop ((a).toNat) s) 10))) (by kernel_rfl) (by kernel_rfl) (zP o_x6 rfl) (xU (a + (ibF (List.drop ((a).toNat) s) 10)) 1 ((a + (ibF (List.drop ((a).toNat) s) 10)) - 1) rfl (by kernel_rfl) (by kernel_rfl) (xL _ (by simp only [arithZ]; omega) (by simp only [arithZ]; omega)) (zT (.pointer (some ⟨b60, 1, none⟩)) (by kernel_rfl) (by kernel_rfl) (yZ b60 1 (.int .i64 ((a + (ibF (List.drop ((a).toNat) s) 10)) - 1)) [(.int .i64 a), (.int .i64 (a + (ibF (List.drop ((a).toNat) s) 10))), (.int .i64 ((a + (ibF (List.drop ((a).toNat) s) 10)) + 1))] [(.int .i64 a), (.int .i64 ((a + (ibF (List.drop ((a).toNat) s) 10)) - 1)), (.int .i64 ((a + (ibF (List.drop ((a).toNat) s) 10)) + 1))] 164 (by kernel_rfl) (by kernel_rfl) rfl (by kernel_rfl) o_x6 (by simp) rfl ?_)))))))))
     intro w69 hW70
     replace hb := hb.trans (hW70.below g_x6)
     replace hs := Nat.le_trans hs (Nat.le_of_eq hW70.size.symm)
     replace r_3 := r_3.wrote hW70 nb_o_x6_r_3
     replace o_x6 := hW70.here
     refine zE (zA (zF (zD (zJ (xA b60 0 [(.int .i64 a), (.int .i64 ((a + (ibF (List.drop ((a).toNat) s) 10)) - 1)), (.int .i64 ((a + (ibF (List.drop ((a).toNat) s) 10)) + 1))] (by kernel_rfl) (by kernel_rfl) (by kernel_rfl) (yP o_x6 0 (by kernel_rfl)) (L_app el161 w.heap.size v_3 acc (a, ((a + (ibF (List.drop ((a).toNat) s) 10)) - 1), ((a + (ibF (List.drop ((a).toNat) s) 10)) + 1)) hs r_3 (by omega) (by kernel_rfl) rfl rfl (by kernel_rfl) rfl (by kernel_rfl) (by kernel_rfl) ?_))))))
     intro v71 w72 hr73 hg74 how75
     have nc_o_x6 := ownb_app how75 nb_o_x6_r_3 (zK o_x6)
     replace hb := hb.grown hg74 hs (fun k hk => (World.ownsRow.lt r_3 k hk).1)
     replace hs := Nat.le_trans hs (hg74.size)
     replace o_x6 := yB o_x6 hg74 nb_o_x6_r_3
     have nb_o_x6_r_3 := nc_o_x6
     replace r_3 := hr73
     refine zL (zE (zA (zD (zT (.pointer (some ⟨b60, 2, none⟩)) (by kernel_rfl) (by kernel_rfl) (yC b60 2 (.int .i64 ((a + (ibF (List.drop ((a).toNat) s) 10)) + 1)) (by kernel_rfl) (by kernel_rfl) (zP o_x6 rfl) (zL (zE (zS ?_))))))))
     refine zA ⟨_, ?_, ((a + (ibF (List.drop ((a).toNat) s) 10)) + 1), (acc ++ [(a, ((a + (ibF (List.drop ((a).toNat) s) 10)) - 1), ((a + (ibF (List.drop ((a).toNat) s) 10)) + 1))]), v71, rfl, hds, by kernel_rfl, by kernel_rfl, by kernel_rfl, r_3, hb, hs, ?_, ?_, ?_, ?_⟩
     ·omega
     ·omega
     ·omega
     ·simp only [List.length_append, List.length_cons, List.length_nil]; omega
     ·exact pcsZ_step i1 rfl (by omega) (.inl ⟨rfl, by omega, _, by assumption, by assumption⟩) i3
    ·intro h76
     replace h76 : c66.toNat ≠ 13 := by omega
     refine yS (by kernel_rfl) (zE (zA (zQ (by kernel_rfl) (zY (zA (zF (zD (zJ (xA b60 0 [(.int .i64 a), (.int .i64 (a + (ibF (List.drop ((a).toNat) s) 10))), (.int .i64 ((a + (ibF (List.drop ((a).toNat) s) 10)) + 1))] (by kernel_rfl) (by kernel_rfl) (by kernel_rfl) (yP o_x6 0 (by kernel_rfl)) (L_app el161 w.heap.size v_3 acc (a, (a + (ibF (List.drop ((a).toNat) s) 10)), ((a + (ibF (List.drop ((a).toNat) s) 10)) + 1)) hs r_3 (by omega) (by kernel_rfl) rfl rfl (by kernel_rfl) rfl (by kernel_rfl) (by kernel_rfl) ?_))))))))))
     intro v77 w78 hr79 hg80 how81
     have nc_o_x6 := ownb_app how81 nb_o_x6_r_3 (zK o_x6)
     replace hb := hb.grown hg80 hs (fun k hk => (World.ownsRow.lt r_3 k hk).1)
     replace hs := Nat.le_trans hs (hg80.size)
     replace o_x6 := yB o_x6 hg80 nb_o_x6_r_3
     have nb_o_x6_r_3 := nc_o_x6
     replace r_3 := hr79
     refine zL (zE (zA (zD (zT (.pointer (some ⟨b60, 2, none⟩)) (by kernel_rfl) (by kernel_rfl) (yC b60 2 (.int .i64 ((a + (ibF (List.drop ((a).toNat) s) 10)) + 1)) (by kernel_rfl) (by kernel_rfl) (zP o_x6 rfl) (zL (zE (zS ?_))))))))
     refine zA ⟨_, ?_, ((a + (ibF (List.drop ((a).toNat) s) 10)) + 1), (acc ++ [(a, (a + (ibF (List.drop ((a).toNat) s) 10)), ((a + (ibF (List.drop ((a).toNat) s) 10)) + 1))]), v77, rfl, hds, by kernel_rfl, by kernel_rfl, by kernel_rfl, r_3, hb, hs, ?_, ?_, ?_, ?_⟩
     ·omega
     ·omega
     ·omega
     ·simp only [List.length_append, List.length_cons, List.length_nil]; omega
     ·exact pcsZ_step i1 rfl (by omega) (.inr ⟨rfl, .inr ⟨_, by assumption, by assumption⟩⟩) i3
   ·intro h82
    replace h82 : (ibF (List.drop ((a).toNat) s) 10) ≤ 0 := by omega
    refine zJ (yF (by kernel_rfl) (yF (by kernel_rfl) (yF (by kernel_rfl) (yF (by kernel_rfl) (yF (by kernel_rfl) (yF (by kernel_rfl) (yR (by kernel_rfl) (zE (zA (zQ (by kernel_rfl) (zY (zA (zF (zD (zJ (xA b60 0 [(.int .i64 a), (.int .i64 (a + (ibF (List.drop ((a).toNat) s) 10))), (.int .i64 ((a + (ibF (List.drop ((a).toNat) s) 10)) + 1))] (by kernel_rfl) (by kernel_rfl) (by kernel_rfl) (yP o_x6 0 (by kernel_rfl)) (L_app el161 w.heap.size v_3 acc (a, (a + (ibF (List.drop ((a).toNat) s) 10)), ((a + (ibF (List.drop ((a).toNat) s) 10)) + 1)) hs r_3 (by omega) (by kernel_rfl) rfl rfl (by kernel_rfl) rfl (by kernel_rfl) (by kernel_rfl) ?_)))))))))))))))))
    intro v83 w84 hr85 hg86 how87
    have nc_o_x6 := ownb_app how87 nb_o_x6_r_3 (zK o_x6)
    replace hb := hb.grown hg86 hs (fun k hk => (World.ownsRow.lt r_3 k hk).1)
    replace hs := Nat.le_trans hs (hg86.size)
    replace o_x6 := yB o_x6 hg86 nb_o_x6_r_3
    have nb_o_x6_r_3 := nc_o_x6
    replace r_3 := hr85
    refine zL (zE (zA (zD (zT (.pointer (some ⟨b60, 2, none⟩)) (by kernel_rfl) (by kernel_rfl) (yC b60 2 (.int .i64 ((a + (ibF (List.drop ((a).toNat) s) 10)) + 1)) (by kernel_rfl) (by kernel_rfl) (zP o_x6 rfl) (zL (zE (zS ?_))))))))
    refine zA ⟨_, ?_, ((a + (ibF (List.drop ((a).toNat) s) 10)) + 1), (acc ++ [(a, (a + (ibF (List.drop ((a).toNat) s) 10)), ((a + (ibF (List.drop ((a).toNat) s) 10)) + 1))]), v83, rfl, hds, by kernel_rfl, by kernel_rfl, by kernel_rfl, r_3, hb, hs, ?_, ?_, ?_, ?_⟩
    ·omega
    ·omega
    ·omega
    ·simp only [List.length_append, List.length_cons, List.length_nil]; omega
    ·exact pcsZ_step i1 rfl (by omega) (.inr ⟨rfl, .inl (by omega)⟩) i3
theorem it_lines_Each_1 (b_s : Nat) (s : List UInt8) (hs : s.length ≤ 1073741824) :
  Iter (α := Int × List UInt8) Tryz.prog 90 [.pointer (some ⟨b_s, 0, none⟩)] (fun x => [.int .i64 x.1, S x.2]) (toldF s) (fun w => w.heap[b_s]? = some (.cells [(S s)].toArray 9 (0, 0))) := by
 intro l J Jx w hN h0 hJs hJxs hY
 refine enter (args := [(.func (.yield l) #[] #[]), (.pointer (some ⟨b_s, 0, none⟩))]) Tryz.func90 rfl (by kernel_rfl : _ = 30) (by kernel_rfl) ?_
 have hb := Below.refl w.heap.size w
 have hs : w.heap.size ≤ w.heap.size := Nat.le_refl _
 have o_caps := hN
 refine zF (zD (yC b_s 0 (S s) (by kernel_rfl) (by kernel_rfl) (zP o_caps rfl) (yD 91 [(S s)] (by kernel_rfl) (by kernel_rfl) (c_lines_pieces s _ (by omega)) ?_)))
 rintro q1 w2 ⟨_, rfl, r_q1, hB3⟩
 replace r_q1 := r_q1.base hs
 replace hb := hb.trans (hB3.mono hs)
 replace hs := Nat.le_trans hs (hB3.size)
 replace o_caps := zB o_caps hB3
 have := pcsI_len s
 refine L_len 161 164 (pcsI s).length q1 rfl Tryz.underlying161 (r_q1.rd).len (by kernel_rfl) (zJ (zE (zA (yU ?_))))
 have hJ := h0 _ hb
 obtain ⟨K, hKe⟩ : ∃ K, K = w2.heap.size := ⟨_, rfl⟩
 rw [← hKe] at hJ
 have hK : K ≤ w2.heap.size := by omega
 have hK0 : w.heap.size ≤ K := by omega
 have ivr_r_q1 : ∀ g, Value.ownBlock q1 = some g → Iv w.heap.size K g := fun g hg => by have := World.ownsRow.lt r_q1 g hg; exact ⟨this.1, by omega⟩
 refine W_loop (fun m s0 w0 => ∃ (i : Nat) (pre : List (Int × List UInt8)), (m = (pcsI s).length - i) ∧ (s0.ds = []) ∧ (s0.f 0 = (.func (.yield l) #[] #[])) ∧ (s0.f 1 = (.pointer (some ⟨b_s, 0, none⟩))) ∧ (s0.f 6 = q1) ∧ (s0.f 7 = (.int .i64 (((pcsI s).length : Nat) : Int))) ∧ (s0.f 8 = (.int .i64 ((i : Nat) : Int))) ∧ (Row w0 w.heap.size 164 3 encPc q1 (pcsI s)) ∧ (w0.heap[b_s]? = some (.cells [(S s)].toArray 9 (0, 0))) ∧ (w.heap.size ≤ w0.heap.size) ∧ (K ≤ w0.heap.size) ∧ (J K pre w0) ∧ (i ≤ (pcsI s).length) ∧ (pre ++ toldL s i ((pcsI s).drop i) = toldF s)) _ ⟨0, [], rfl, by kernel_rfl, by kernel_rfl, by kernel_rfl, by kernel_rfl, by kernel_rfl, by kernel_rfl, r_q1, o_caps, hs, hK, hJ, by omega, rfl⟩ ?_
 rintro m5 s6 w7 ⟨i, pre, hm, hds, f_0, f_1, f_6, f_7, f_8, r_q1, o_caps, hs, hK, hJ, i1, i3⟩
 refine yL 0 _ f_0 (yL 1 _ f_1 (yL 6 _ f_6 (yL 7 _ f_7 (yL 8 _ f_8 ?_))))
 clear f_0 f_1 f_6 f_7 f_8
 refine zF (zD (yE .i64 ((i : Nat) : Int) (((pcsI s).length : Nat) : Int) (i < (pcsI s).length) rfl (cmpN_lt i ((pcsI s).length)) (by kernel_rfl) (by kernel_rfl) ?_ ?_))
 ·intro h8
  replace h8 : i < (pcsI s).length := by omega
  refine zE (zA (zF (zV (by kernel_rfl) (zY (zA (zF (yU (zF (zD (zJ ?_))))))))))
  have hz := xD (pcsI s) i (by omega); obtain ⟨x9, hx10⟩ := hz
  have hz := (r_q1.rd).at (k := 3) (fun _ => rfl) hx10
  obtain ⟨g11, off12, hl13, hc14⟩ := hz
  have hpo := pcsI_ok hx10
  obtain ⟨po1, po2, po3, po4⟩ := hpo
  refine xO (k := .i64) q1 i _ g11 off12 el161 hl13 (by omega) (by kernel_rfl) (by kernel_rfl) (xA g11 (off12 + i * 3) [(.int .i64 x9.1), (.int .i64 x9.2.1), (.int .i64 x9.2.2)] (by kernel_rfl) (by kernel_rfl) (by kernel_rfl) hc14 (yX (fun b => .pointer (some ⟨b, 0, none⟩)) (.cells [(.int .i64 0), (.int .i64 0), (.int .i64 0)].toArray 164 (0, 0)) (by kernel_rfl) (by kernel_rfl) ?_))
  intro b15 w16 hN17
  have ne_caps_x4 : NE b_s b15 := by have := (zK o_caps); have := hN17.num; show _ ≠ _; omega
  have ne_x4_caps := NE.symm ne_caps_x4
  have g_x4 : w.heap.size ≤ b15 := by rw [hN17.num]; exact hs
  have hCJ := Ch.refl (Iv w.heap.size K) w7
  have jv_x4 : (World.heap w7).size ≤ b15 ∨ Iv w.heap.size K b15 := .inl (by rw [hN17.num]; exact hCJ.size)
  have nb_o_x4_r_q1 := r_q1.new_ne hN17
  replace hCJ := hCJ.trans2 (Ch.of_below hN17.below) (fun _ h => h.elim)
  replace hK := Nat.le_trans hK (hN17.below.size)
  replace hs := Nat.le_trans hs (hN17.below.size)
  replace o_caps := zB o_caps hN17.below
  replace r_q1 := r_q1.below hN17.below
  have o_x4 := hN17.here
  refine zL (yT b15 0 [(.int .i64 x9.1), (.int .i64 x9.2.1), (.int .i64 x9.2.2)] [(.int .i64 0), (.int .i64 0), (.int .i64 0)] [(.int .i64 x9.1), (.int .i64 x9.2.1), (.int .i64 x9.2.2)] 164 (by kernel_rfl) (by kernel_rfl) rfl (by kernel_rfl) o_x4 (by kernel_rfl) rfl ?_)
  intro w18 hW19
  replace hCJ := hCJ.trans2 (Ch.of_wrote hW19) (fun k e => e ▸ jv_x4)
  replace hK := Nat.le_trans hK (Nat.le_of_eq hW19.size.symm)
  replace hs := Nat.le_trans hs (Nat.le_of_eq hW19.size.symm)
  replace o_caps := zG o_caps hW19 (zO o_caps o_x4 (by simp))
  replace r_q1 := r_q1.wrote hW19 nb_o_x4_r_q1
  replace o_x4 := hW19.here
  refine zE (zA (zF (zF (zD (zT (.pointer (some ⟨b15, 0, none⟩)) (by kernel_rfl) (by kernel_rfl) (yC b15 0 (.int .i64 x9.1) (by kernel_rfl) (by kernel_rfl) (zP o_x4 rfl) (zT (.pointer (some ⟨b15, 2, none⟩)) (by kernel_rfl) (by kernel_rfl) (yC b15 2 (.int .i64 x9.2.2) (by kernel_rfl) (by kernel_rfl) (zP o_x4 rfl) (yE .i64 x9.1 x9.2.2 (x9.1 = x9.2.2) rfl (yW x9.1 x9.2.2) (by kernel_rfl) (by kernel_rfl) ?_ ?_)))))))))
  ·intro h20
   replace h20 : x9.1 = x9.2.2 := by omega
   refine zE (zA (zV (by kernel_rfl) (yA (zM (zX (zM (zM (zX ?_))))))))
   refine zR [] [] rfl hds trivial ?_
   replace hJ := hJs _ _ _ _ hJ hCJ
   clear hCJ
   have epre : pre = toldF s := by exact told_stop (by assumption) (by assumption) i3
   rw [epre] at hJ
   exact ⟨hs, Or.inl ⟨K, hJ⟩⟩
  ·intro h21
   replace h21 : x9.1 ≠ x9.2.2 := by omega
   refine zE (zA (zQ (by kernel_rfl) (zY (zA (zF (zD (zJ (zJ (xH i 1 (by omega) (by kernel_rfl) (by kernel_rfl) (yC b_s 0 (S s) (by kernel_rfl) (by kernel_rfl) (zP o_caps rfl) (zT (.pointer (some ⟨b15, 0, none⟩)) (by kernel_rfl) (by kernel_rfl) (yC b15 0 (.int .i64 x9.1) (by kernel_rfl) (by kernel_rfl) (zP o_x4 rfl) (zT (.pointer (some ⟨b15, 1, none⟩)) (by kernel_rfl) (by kernel_rfl) (yC b15 1 (.int .i64 x9.2.1) (by kernel_rfl) (by kernel_rfl) (zP o_x4 rfl) (L_sslice s ((x9.1).toNat) ((x9.2.1).toNat) Tryz.underlying9 (by kernel_rfl) (toNat_val x9.1 .i64 (by kernel_rfl) (by omega)) (toNat_val x9.2.1 .i64 (by kernel_rfl) (by omega)) (by omega) (by omega) ?_)))))))))))))))
   replace hJ := hJs _ _ _ _ hJ hCJ
   clear hCJ
   have hpre : pre ++ [((((i + 1) : Nat) : Int), (List.drop ((x9.1).toNat) (List.take ((x9.2.1).toNat) s)))] <+: toldF s := by exact pre_of3 (told_step (by assumption) (by assumption) i3)
   refine L_yield l [(.int .i64 (((i + 1) : Nat) : Int)), (S (List.drop ((x9.1).toNat) (List.take ((x9.2.1).toNat) s)))] (by kernel_rfl) (by kernel_rfl) (hY K pre ((((i + 1) : Nat) : Int), (List.drop ((x9.1).toNat) (List.take ((x9.2.1).toNat) s))) _ hJ o_caps hK0 hK hpre) ?_
   rintro e w22 (⟨rfl, hJ', hk, hN'⟩ | ⟨rfl, hJx, hk⟩)
   ·refine ⟨true, rfl, ?_⟩
    replace r_q1 := r_q1.kp hk ivr_r_q1
    replace hs := Nat.le_trans hs hk.size
    replace hK := Nat.le_trans hK hk.size
    replace hJ := hJ'
    replace o_caps := hN'
    refine L_not true (by kernel_rfl) (zE (zA (zQ (by kernel_rfl) (zY (zS (zA (zD (xH i 1 (by omega) (by kernel_rfl) (by kernel_rfl) (zJ (zE ?_))))))))))
    refine zA ⟨_, ?_, (i + 1), (pre ++ [((((i + 1) : Nat) : Int), (List.drop ((x9.1).toNat) (List.take ((x9.2.1).toNat) s)))]), rfl, hds, by kernel_rfl, by kernel_rfl, by kernel_rfl, by kernel_rfl, by kernel_rfl, r_q1, o_caps, hs, hK, hJ, ?_, ?_⟩
    ·omega
    ·omega
    ·exact told_step (by assumption) (by assumption) i3
   ·refine ⟨false, rfl, ?_⟩
    replace r_q1 := r_q1.kp hk ivr_r_q1
    replace hs := Nat.le_trans hs hk.size
    replace hK := Nat.le_trans hK hk.size
    refine L_not false (by kernel_rfl) (zE (zA (zV (by kernel_rfl) (yA (zX (zM (zM (zX ?_))))))))
    refine zR [] [] rfl hds trivial ?_
    exact ⟨hs, Or.inr ⟨K, _, _, hpre, hJx⟩⟩
 ·intro h23
  replace h23 : (pcsI s).length ≤ i := by omega
  refine zE (zA (zF (zQ (by kernel_rfl) (W_exit (yQ (yQ (xT ?_)))))))
  refine end_normal [] [] rfl hds trivial ?_
  have epre : pre = toldF s := by exact told_end (by omega) i3
  rw [epre] at hJ
  exact ⟨hs, Or.inl ⟨K, hJ⟩⟩
theorem c_lines_Each (s : List UInt8) (w : World) :
  Calls Tryz.prog 58 #[(S s)] w (Ret fun v w' => ∃ (cb0 : Nat), v = (.func (.func 90) #[] #[(.pointer (some ⟨cb0, 0, none⟩))]) ∧ w'.heap[cb0]? = some (.cells [(S s)].toArray 9 (0, 0)) ∧ w.heap.size ≤ cb0 ∧ Below w.heap.size w w') := by
 refine enter (args := [(S s)]) Tryz.func58 rfl (by kernel_rfl : _ = 4) (by kernel_rfl) ?_
 have hb := Below.refl w.heap.size w
 have hs : w.heap.size ≤ w.heap.size := Nat.le_refl _
 refine zF (zD (yX (fun b => .pointer (some ⟨b, 0, none⟩)) (.cells [(S s)].toArray 9 (0, 0)) (by kernel_rfl) (by kernel_rfl) ?_))
 intro b1 w2 hN3
 have g_x1 : w.heap.size ≤ b1 := by rw [hN3.num]; exact hs
 replace hb := hb.trans (hN3.below.mono hs)
 replace hs := Nat.le_trans hs (hN3.below.size)
 have o_x1 := hN3.here
 refine zL (zE (zA (zF (zD (zT (.func (.func 90) #[] #[(.pointer (some ⟨b1, 0, none⟩))]) (by kernel_rfl) (by kernel_rfl) (zL (zE (zA (yA ?_)))))))))
 refine zR [.tmp 2] [(.func (.func 90) #[] #[(.pointer (some ⟨b1, 0, none⟩))])] rfl rfl ⟨by kernel_rfl, trivial⟩ ?_
 exact ⟨b1, rfl, o_x1, g_x1, hb⟩
end Go.Proofs.YtkclikfejmeblaaGreatDoor
end

/- === Wlscan === -/
section
/- Walks, written by my program walk.py out of the specification lscan.py: each theorem says what one function returns and that it leaves memory as it was. -/
namespace Go.Proofs.YtkclikfejmeblaaGreatDoor
open Go Go.RowKit Go.FK
set_option maxHeartbeats 4000000
set_option maxRecDepth 100000
set_option linter.unusedVariables false
set_option linter.unusedSimpArgs false
theorem c_lines_Scan (no : Int) (s : List UInt8) (w : World) (hs : s.length ≤ 1073741824) :
  Calls Tryz.prog 59 #[(.int .i64 no), (S s)] w (Ret fun v w' => ∃ (q0 : Value), v = (.tuple #[(Value.agg #[(.int .i64 ((scanF no s).1.1)), (.int .u8 ((scanF no s).1.2.1)), (S ((scanF no s).1.2.2.1)), q0, (S ((scanF no s).1.2.2.2.2))]), (.int .i64 ((scanF no s).2))]) ∧ Row w' w.heap.size 9 1 encStr q0 ((scanF no s).1.2.2.2.1) ∧ Below w.heap.size w w') := by
 refine enter (args := [(.int .i64 no), (S s)]) Tryz.func59 rfl (by kernel_rfl : _ = 84) (by kernel_rfl) ?_
 have hb := Below.refl w.heap.size w
 have hs : w.heap.size ≤ w.heap.size := Nat.le_refl _
 have hnl := cutF_len s
 refine zF (zD (yX (fun b => .pointer (some ⟨b, 0, none⟩)) (.cells [(.int .i64 0), (.int .u8 0), (S ([] : List UInt8)), (.slice none 0 0), (S ([] : List UInt8))].toArray 72 (0, 0)) (by kernel_rfl) (by kernel_rfl) ?_))
 intro b1 w2 hN3
 have g_x4 : w.heap.size ≤ b1 := by rw [hN3.num]; exact hs
 replace hb := hb.trans (hN3.below.mono hs)
 replace hs := Nat.le_trans hs (hN3.below.size)
 have o_x4 := hN3.here
 refine zL (zE (zA (zF (zF (zD (zJ (yD 92 [(S s)] (by kernel_rfl) (by kernel_rfl) (c_lines_Check s _ (by omega)) ?_)))))))
 rintro _ w4 ⟨rfl, hB5⟩
 replace hb := hb.trans (hB5.mono hs)
 replace hs := Nat.le_trans hs (hB5.size)
 replace o_x4 := zB o_x4 hB5
 have := chkF_range s
 refine zJ (zT (.int .i64 (((chkF s).1 : Nat) : Int)) (by kernel_rfl) (by kernel_rfl) (zT (.int .i64 ((chkF s).2)) (by kernel_rfl) (by kernel_rfl) (zL (zL (zE (zA (zF (zD (zJ (yE .i64 ((chkF s).2) 0 ((chkF s).2 ≠ 0) rfl (cmp_ne ((chkF s).2) 0) (by kernel_rfl) (by kernel_rfl) ?_ ?_))))))))))
 ·intro h7
  replace h7 : (chkF s).2 ≠ 0 := by omega
  refine zE (zA (zV (by kernel_rfl) (zF (zD (zT (Value.agg #[(.int .i64 0), (.int .u8 0), (S ([] : List UInt8)), (.slice none 0 0), (S ([] : List UInt8))]) (by kernel_rfl) (by kernel_rfl) (zJ (yT b1 0 [(.int .i64 0), (.int .u8 0), (S ([] : List UInt8)), (.slice none 0 0), (S ([] : List UInt8))] [(.int .i64 0), (.int .u8 0), (S ([] : List UInt8)), (.slice none 0 0), (S ([] : List UInt8))] [(.int .i64 0), (.int .u8 0), (S ([] : List UInt8)), (.slice none 0 0), (S ([] : List UInt8))] 72 (by kernel_rfl) (by kernel_rfl) rfl (by kernel_rfl) o_x4 (by kernel_rfl) rfl ?_)))))))
  intro w8 hW9
  replace hb := hb.trans (hW9.below g_x4)
  replace hs := Nat.le_trans hs (Nat.le_of_eq hW9.size.symm)
  replace o_x4 := hW9.here
  refine zL (zE (zA (yA (zM ?_))))
  refine zR [.cell 4 72, .tmp 5] [(Value.agg #[(.int .i64 0), (.int .u8 0), (S ([] : List UInt8)), (.slice none 0 0), (S ([] : List UInt8))]), (.int .i64 ((chkF s).2))] rfl rfl ⟨⟨⟨b1, 0, none⟩, by kernel_rfl, xM [(.int .i64 0), (.int .u8 0), (S ([] : List UInt8)), (.slice none 0 0), (S ([] : List UInt8))] (by kernel_rfl) (by kernel_rfl) (xE o_x4)⟩, by kernel_rfl, trivial⟩ ?_
  have hE : ((Value.agg #[(.int .i64 0), (.int .u8 0), (S ([] : List UInt8)), (.slice none 0 0), (S ([] : List UInt8))]) = (Value.agg #[(.int .i64 ((scanF no s).1.1)), (.int .u8 ((scanF no s).1.2.1)), (S ((scanF no s).1.2.2.1)), (.slice none 0 0), (S ((scanF no s).1.2.2.2.2))])) ∧ (((chkF s).2 : Int) = (scanF no s).2) ∧ (([] : List (List UInt8)) = (scanF no s).1.2.2.2.1) := ⟨(by (rw [scan_bad (by assumption)]; try rfl; done)), (by (rw [scan_bad (by assumption)]; try rfl; done)), (by (rw [scan_bad (by assumption)]; try rfl; done))⟩
  exact ⟨(.slice none 0 0), xJ (hE.1) (congrArg (Value.int .i64) hE.2.1), (Row.nil _ _ _ _ _).cast hE.2.2, hb⟩
 ·intro h10
  replace h10 : (chkF s).2 = 0 := by omega
  refine zE (zA (zQ (by kernel_rfl) (zY (zA (zF (zD (zJ (zT (Value.agg #[(.int .i64 no), (.int .u8 0), (S ([] : List UInt8)), (.slice none 0 0), (S ([] : List UInt8))]) (by kernel_rfl) (by kernel_rfl) (yX (fun b => .pointer (some ⟨b, 0, none⟩)) (.cells [(.int .i64 0), (.int .u8 0), (S ([] : List UInt8)), (.slice none 0 0), (S ([] : List UInt8))].toArray 72 (0, 0)) (by kernel_rfl) (by kernel_rfl) ?_)))))))))
  intro b11 w12 hN13
  have ne_x4_x8 : NE b1 b11 := by have := (zK o_x4); have := hN13.num; show _ ≠ _; omega
  have ne_x8_x4 := NE.symm ne_x4_x8
  have g_x8 : w.heap.size ≤ b11 := by rw [hN13.num]; exact hs
  replace hb := hb.trans (hN13.below.mono hs)
  replace hs := Nat.le_trans hs (hN13.below.size)
  replace o_x4 := zB o_x4 hN13.below
  have o_x8 := hN13.here
  refine yT b11 0 [(.int .i64 no), (.int .u8 0), (S ([] : List UInt8)), (.slice none 0 0), (S ([] : List UInt8))] [(.int .i64 0), (.int .u8 0), (S ([] : List UInt8)), (.slice none 0 0), (S ([] : List UInt8))] [(.int .i64 no), (.int .u8 0), (S ([] : List UInt8)), (.slice none 0 0), (S ([] : List UInt8))] 72 (by kernel_rfl) (by kernel_rfl) rfl (by kernel_rfl) o_x8 (by kernel_rfl) rfl ?_
  intro w14 hW15
  replace hb := hb.trans (hW15.below g_x8)
  replace hs := Nat.le_trans hs (Nat.le_of_eq hW15.size.symm)
  replace o_x4 := zG o_x4 hW15 ne_x4_x8
  replace o_x8 := hW15.here
  refine zE (zA (zF (zD (zJ (yD 93 [(S s)] (by kernel_rfl) (by kernel_rfl) (c_lines_Cut s _ (by omega)) ?_)))))
  rintro _ w17 ⟨q16, rfl, r_q16, hB18⟩
  replace r_q16 := r_q16.base hs
  replace hb := hb.trans (hB18.mono hs)
  replace hs := Nat.le_trans hs (hB18.size)
  replace o_x4 := zB o_x4 hB18
  replace o_x8 := zB o_x8 hB18
  refine zJ (zT q16 (by kernel_rfl) (by kernel_rfl) (zT (S ((cutF s).2)) (by kernel_rfl) (by kernel_rfl) (zT (.pointer (some ⟨b11, 3, none⟩)) (by kernel_rfl) (by kernel_rfl) (yZ b11 3 q16 [(.int .i64 no), (.int .u8 0), (S ([] : List UInt8)), (.slice none 0 0), (S ([] : List UInt8))] [(.int .i64 no), (.int .u8 0), (S ([] : List UInt8)), q16, (S ([] : List UInt8))] 72 (by kernel_rfl) (by kernel_rfl) r_q16.one (by kernel_rfl) o_x8 (by simp) rfl ?_))))
  intro w20 hW21
  replace hb := hb.trans (hW21.below g_x8)
  replace hs := Nat.le_trans hs (Nat.le_of_eq hW21.size.symm)
  replace o_x4 := zG o_x4 hW21 ne_x4_x8
  replace r_q16 := r_q16.wrote hW21 (r_q16.ne o_x8 (by simp))
  replace o_x8 := hW21.here
  refine zT (.pointer (some ⟨b11, 4, none⟩)) (by kernel_rfl) (by kernel_rfl) (yZ b11 4 (S ((cutF s).2)) [(.int .i64 no), (.int .u8 0), (S ([] : List UInt8)), q16, (S ([] : List UInt8))] [(.int .i64 no), (.int .u8 0), (S ([] : List UInt8)), q16, (S ((cutF s).2))] 72 (by kernel_rfl) (by kernel_rfl) rfl (by kernel_rfl) o_x8 (by simp) rfl ?_)
  intro w22 hW23
  replace hb := hb.trans (hW23.below g_x8)
  replace hs := Nat.le_trans hs (Nat.le_of_eq hW23.size.symm)
  replace o_x4 := zG o_x4 hW23 ne_x4_x8
  replace r_q16 := r_q16.wrote hW23 (r_q16.ne o_x8 (by simp))
  replace o_x8 := hW23.here
  refine zE (zA (zF (zD (zJ (yD 94 [(S s), (S ([35] : List UInt8))] (by kernel_rfl) (by kernel_rfl) (c_strings_Cut s ([35] : List UInt8) _ (by rfl) (by omega)) ?_)))))
  rintro _ w24 ⟨rfl, hB25⟩
  replace hb := hb.trans (hB25.mono hs)
  replace hs := Nat.le_trans hs (hB25.size)
  replace o_x4 := zB o_x4 hB25
  replace o_x8 := zB o_x8 hB25
  replace r_q16 := r_q16.below hB25
  have := cutl_len s ([35] : List UInt8)
  refine zJ (zT (S ((Lib.cut s ([35] : List UInt8)).1)) (by kernel_rfl) (by kernel_rfl) (zT (S ((Lib.cut s ([35] : List UInt8)).2.1)) (by kernel_rfl) (by kernel_rfl) (zT (.bool ((Lib.cut s ([35] : List UInt8)).2.2)) (by kernel_rfl) (by kernel_rfl) (xK ((Lib.cut s ([35] : List UInt8)).2.2) ?_ ?_))))
  ·intro h27
   refine zL (zL (zL (zE (zA (zF (zD (zJ (yD 95 [(S ((Lib.cut s ([35] : List UInt8)).1))] (by kernel_rfl) (by kernel_rfl) (c_lines_trim ((Lib.cut s ([35] : List UInt8)).1) _ (by omega)) ?_))))))))
   rintro _ w28 ⟨rfl, hB29⟩
   replace hb := hb.trans (hB29.mono hs)
   replace hs := Nat.le_trans hs (hB29.size)
   replace o_x4 := zB o_x4 hB29
   replace o_x8 := zB o_x8 hB29
   replace r_q16 := r_q16.below hB29
   have := trm_len ((Lib.cut s ([35] : List UInt8)).1)
   refine zL (zE (zA (zF (yU (zF (zD (zJ (yD 96 [(S (trmF ((Lib.cut s ([35] : List UInt8)).1))), (S ([64] : List UInt8))] (by kernel_rfl) (by kernel_rfl) (c_strings_HasPrefix (trmF ((Lib.cut s ([35] : List UInt8)).1)) ([64] : List UInt8) _ ) ?_))))))))
   rintro _ w31 ⟨rfl, hB32⟩
   replace hb := hb.trans (hB32.mono hs)
   replace hs := Nat.le_trans hs (hB32.size)
   replace o_x4 := zB o_x4 hB32
   replace o_x8 := zB o_x8 hB32
   replace r_q16 := r_q16.below hB32
   refine xK (hpB (trmF ((Lib.cut s ([35] : List UInt8)).1)) ([64] : List UInt8)) ?_ ?_
   ·intro h34
    have := hp_len h34; simp only [List.length_cons, List.length_nil] at this
    refine zL (zE (zA (zV (by kernel_rfl) (zF (zD (zJ (L_ssfrom (trmF ((Lib.cut s ([35] : List UInt8)).1)) 1 Tryz.underlying9 (by kernel_rfl) ⟨.i64, by kernel_rfl⟩ (by omega) (yD 94 [(S (List.drop 1 (trmF ((Lib.cut s ([35] : List UInt8)).1)))), (S ([58] : List UInt8))] (by kernel_rfl) (by kernel_rfl) (c_strings_Cut (List.drop 1 (trmF ((Lib.cut s ([35] : List UInt8)).1))) ([58] : List UInt8) _ (by rfl) (by (simp only [List.length_drop, List.length_take] at *; omega))) ?_))))))))
    rintro _ w35 ⟨rfl, hB36⟩
    replace hb := hb.trans (hB36.mono hs)
    replace hs := Nat.le_trans hs (hB36.size)
    replace o_x4 := zB o_x4 hB36
    replace o_x8 := zB o_x8 hB36
    replace r_q16 := r_q16.below hB36
    have := cutl_len (List.drop 1 (trmF ((Lib.cut s ([35] : List UInt8)).1))) ([58] : List UInt8)
    refine zJ (zT (S ((Lib.cut (List.drop 1 (trmF ((Lib.cut s ([35] : List UInt8)).1))) ([58] : List UInt8)).1)) (by kernel_rfl) (by kernel_rfl) (zT (S ((Lib.cut (List.drop 1 (trmF ((Lib.cut s ([35] : List UInt8)).1))) ([58] : List UInt8)).2.1)) (by kernel_rfl) (by kernel_rfl) (zT (.bool ((Lib.cut (List.drop 1 (trmF ((Lib.cut s ([35] : List UInt8)).1))) ([58] : List UInt8)).2.2)) (by kernel_rfl) (by kernel_rfl) (xK ((Lib.cut (List.drop 1 (trmF ((Lib.cut s ([35] : List UInt8)).1))) ([58] : List UInt8)).2.2) ?_ ?_))))
    ·intro h38
     refine zL (zL (zL (zE (zA (zF (zF (zD (zJ (L_not true (by kernel_rfl) (zJ (zZ (by kernel_rfl) (zJ (zZ (by kernel_rfl) (yD 97 [(S ((Lib.cut (List.drop 1 (trmF ((Lib.cut s ([35] : List UInt8)).1))) ([58] : List UInt8)).1))] (by kernel_rfl) (by kernel_rfl) (c_lines_named ((Lib.cut (List.drop 1 (trmF ((Lib.cut s ([35] : List UInt8)).1))) ([58] : List UInt8)).1) _ (by (simp only [List.length_drop, List.length_take] at *; omega))) ?_))))))))))))))
     rintro _ w39 ⟨rfl, hB40⟩
     replace hb := hb.trans (hB40.mono hs)
     replace hs := Nat.le_trans hs (hB40.size)
     replace o_x4 := zB o_x4 hB40
     replace o_x8 := zB o_x8 hB40
     replace r_q16 := r_q16.below hB40
     refine xK (nameF ((Lib.cut (List.drop 1 (trmF ((Lib.cut s ([35] : List UInt8)).1))) ([58] : List UInt8)).1)) ?_ ?_
     ·intro h42
      refine zZ (by kernel_rfl) (L_not true (by kernel_rfl) (yR (by kernel_rfl) (zE (zA (zQ (by kernel_rfl) (zY (zA (zD (zJ (zJ (yD 98 [(S ((Lib.cut (List.drop 1 (trmF ((Lib.cut s ([35] : List UInt8)).1))) ([58] : List UInt8)).2.1))] (by kernel_rfl) (by kernel_rfl) (c_lines_fields ((Lib.cut (List.drop 1 (trmF ((Lib.cut s ([35] : List UInt8)).1))) ([58] : List UInt8)).2.1) _ (by (simp only [List.length_drop, List.length_take] at *; omega))) ?_)))))))))))
      rintro q43 w44 ⟨_, rfl, r_q43, hB45⟩
      have ap_r_q43_r_q16 := ap_call r_q43 r_q16; have ap_r_q16_r_q43 := yO ap_r_q43_r_q16
      replace r_q43 := r_q43.base hs
      replace hb := hb.trans (hB45.mono hs)
      replace hs := Nat.le_trans hs (hB45.size)
      replace o_x4 := zB o_x4 hB45
      replace o_x8 := zB o_x8 hB45
      replace r_q16 := r_q16.below hB45
      refine zT (.pointer (some ⟨b11, 1, none⟩)) (by kernel_rfl) (by kernel_rfl) (yZ b11 1 (.int .u8 2) [(.int .i64 no), (.int .u8 0), (S ([] : List UInt8)), q16, (S ((cutF s).2))] [(.int .i64 no), (.int .u8 2), (S ([] : List UInt8)), q16, (S ((cutF s).2))] 72 (by kernel_rfl) (by kernel_rfl) rfl (by kernel_rfl) o_x8 (by simp) rfl ?_)
      intro w47 hW48
      replace hb := hb.trans (hW48.below g_x8)
      replace hs := Nat.le_trans hs (Nat.le_of_eq hW48.size.symm)
      replace o_x4 := zG o_x4 hW48 ne_x4_x8
      replace r_q16 := r_q16.wrote hW48 (r_q16.ne o_x8 (by simp))
      replace r_q43 := r_q43.wrote hW48 (r_q43.ne o_x8 (by simp))
      replace o_x8 := hW48.here
      refine zT (.pointer (some ⟨b11, 2, none⟩)) (by kernel_rfl) (by kernel_rfl) (yZ b11 2 (S ((Lib.cut (List.drop 1 (trmF ((Lib.cut s ([35] : List UInt8)).1))) ([58] : List UInt8)).1)) [(.int .i64 no), (.int .u8 2), (S ([] : List UInt8)), q16, (S ((cutF s).2))] [(.int .i64 no), (.int .u8 2), (S ((Lib.cut (List.drop 1 (trmF ((Lib.cut s ([35] : List UInt8)).1))) ([58] : List UInt8)).1)), q16, (S ((cutF s).2))] 72 (by kernel_rfl) (by kernel_rfl) rfl (by kernel_rfl) o_x8 (by simp) rfl ?_)
      intro w49 hW50
      replace hb := hb.trans (hW50.below g_x8)
      replace hs := Nat.le_trans hs (Nat.le_of_eq hW50.size.symm)
      replace o_x4 := zG o_x4 hW50 ne_x4_x8
      replace r_q16 := r_q16.wrote hW50 (r_q16.ne o_x8 (by simp))
      replace r_q43 := r_q43.wrote hW50 (r_q43.ne o_x8 (by simp))
      replace o_x8 := hW50.here
      refine zT (.pointer (some ⟨b11, 3, none⟩)) (by kernel_rfl) (by kernel_rfl) (yZ b11 3 q43 [(.int .i64 no), (.int .u8 2), (S ((Lib.cut (List.drop 1 (trmF ((Lib.cut s ([35] : List UInt8)).1))) ([58] : List UInt8)).1)), q16, (S ((cutF s).2))] [(.int .i64 no), (.int .u8 2), (S ((Lib.cut (List.drop 1 (trmF ((Lib.cut s ([35] : List UInt8)).1))) ([58] : List UInt8)).1)), q43, (S ((cutF s).2))] 72 (by kernel_rfl) (by kernel_rfl) r_q43.one (by kernel_rfl) o_x8 (by simp) rfl ?_)
      intro w51 hW52
      replace hb := hb.trans (hW52.below g_x8)
      replace hs := Nat.le_trans hs (Nat.le_of_eq hW52.size.symm)
      replace o_x4 := zG o_x4 hW52 ne_x4_x8
      replace r_q16 := r_q16.wrote hW52 (r_q16.ne o_x8 (by simp))
      replace r_q43 := r_q43.wrote hW52 (r_q43.ne o_x8 (by simp))
      replace o_x8 := hW52.here
      refine zE (zS (zA (zF (zD (xA b11 0 [(.int .i64 no), (.int .u8 2), (S ((Lib.cut (List.drop 1 (trmF ((Lib.cut s ([35] : List UInt8)).1))) ([58] : List UInt8)).1)), q43, (S ((cutF s).2))] (by kernel_rfl) (by kernel_rfl) (by kernel_rfl) (yP o_x8 0 (by kernel_rfl)) (yT b1 0 [(.int .i64 no), (.int .u8 2), (S ((Lib.cut (List.drop 1 (trmF ((Lib.cut s ([35] : List UInt8)).1))) ([58] : List UInt8)).1)), q43, (S ((cutF s).2))] [(.int .i64 0), (.int .u8 0), (S ([] : List UInt8)), (.slice none 0 0), (S ([] : List UInt8))] [(.int .i64 no), (.int .u8 2), (S ((Lib.cut (List.drop 1 (trmF ((Lib.cut s ([35] : List UInt8)).1))) ([58] : List UInt8)).1)), q43, (S ((cutF s).2))] 72 (by kernel_rfl) (by kernel_rfl) (allc rfl (allc rfl (allc rfl (allc r_q43.one (allc rfl rfl))))) (by kernel_rfl) o_x4 (by kernel_rfl) rfl ?_))))))
      intro w53 hW54
      replace hb := hb.trans (hW54.below g_x4)
      replace hs := Nat.le_trans hs (Nat.le_of_eq hW54.size.symm)
      replace o_x8 := zG o_x8 hW54 ne_x8_x4
      replace r_q16 := r_q16.wrote hW54 (r_q16.ne o_x4 (by simp))
      replace r_q43 := r_q43.wrote hW54 (r_q43.ne o_x4 (by simp))
      replace o_x4 := hW54.here
      refine zL (zE (zA (yA ?_)))
      refine zR [.cell 4 72, .tmp 5] [(Value.agg #[(.int .i64 no), (.int .u8 2), (S ((Lib.cut (List.drop 1 (trmF ((Lib.cut s ([35] : List UInt8)).1))) ([58] : List UInt8)).1)), q43, (S ((cutF s).2))]), (.int .i64 0)] rfl rfl ⟨⟨⟨b1, 0, none⟩, by kernel_rfl, xM [(.int .i64 no), (.int .u8 2), (S ((Lib.cut (List.drop 1 (trmF ((Lib.cut s ([35] : List UInt8)).1))) ([58] : List UInt8)).1)), q43, (S ((cutF s).2))] (by kernel_rfl) (by kernel_rfl) (xE o_x4)⟩, by kernel_rfl, trivial⟩ ?_
      have hE : ((Value.agg #[(.int .i64 no), (.int .u8 2), (S ((Lib.cut (List.drop 1 (trmF ((Lib.cut s ([35] : List UInt8)).1))) ([58] : List UInt8)).1)), q43, (S ((cutF s).2))]) = (Value.agg #[(.int .i64 ((scanF no s).1.1)), (.int .u8 ((scanF no s).1.2.1)), (S ((scanF no s).1.2.2.1)), q43, (S ((scanF no s).1.2.2.2.2))])) ∧ ((0 : Int) = (scanF no s).2) ∧ (fieldsF ((Lib.cut (List.drop 1 (trmF ((Lib.cut s ([35] : List UInt8)).1))) ([58] : List UInt8)).2.1) = (scanF no s).1.2.2.2.1) := ⟨(by (rw [scan_order (by assumption) (by assumption) (by assumption) (by assumption)]; try rfl; done)), (by (rw [scan_order (by assumption) (by assumption) (by assumption) (by assumption)]; try rfl; done)), (by (rw [scan_order (by assumption) (by assumption) (by assumption) (by assumption)]; try rfl; done))⟩
      exact ⟨q43, xJ (hE.1) (congrArg (Value.int .i64) hE.2.1), r_q43.cast hE.2.2, hb⟩
     ·intro h55
      refine zZ (by kernel_rfl) (L_not false (by kernel_rfl) (yR (by kernel_rfl) (zE (zA (zV (by kernel_rfl) (zF (zD (zT (Value.agg #[(.int .i64 0), (.int .u8 0), (S ([] : List UInt8)), (.slice none 0 0), (S ([] : List UInt8))]) (by kernel_rfl) (by kernel_rfl) (yT b1 0 [(.int .i64 0), (.int .u8 0), (S ([] : List UInt8)), (.slice none 0 0), (S ([] : List UInt8))] [(.int .i64 0), (.int .u8 0), (S ([] : List UInt8)), (.slice none 0 0), (S ([] : List UInt8))] [(.int .i64 0), (.int .u8 0), (S ([] : List UInt8)), (.slice none 0 0), (S ([] : List UInt8))] 72 (by kernel_rfl) (by kernel_rfl) rfl (by kernel_rfl) o_x4 (by kernel_rfl) rfl ?_)))))))))
      intro w56 hW57
      replace hb := hb.trans (hW57.below g_x4)
      replace hs := Nat.le_trans hs (Nat.le_of_eq hW57.size.symm)
      replace o_x8 := zG o_x8 hW57 ne_x8_x4
      replace r_q16 := r_q16.wrote hW57 (r_q16.ne o_x4 (by simp))
      replace o_x4 := hW57.here
      refine zL (zE (zA (yA (zM (zX (zM ?_))))))
      refine zR [.cell 4 72, .tmp 5] [(Value.agg #[(.int .i64 0), (.int .u8 0), (S ([] : List UInt8)), (.slice none 0 0), (S ([] : List UInt8))]), (.int .i64 33)] rfl rfl ⟨⟨⟨b1, 0, none⟩, by kernel_rfl, xM [(.int .i64 0), (.int .u8 0), (S ([] : List UInt8)), (.slice none 0 0), (S ([] : List UInt8))] (by kernel_rfl) (by kernel_rfl) (xE o_x4)⟩, by kernel_rfl, trivial⟩ ?_
      have hE : ((Value.agg #[(.int .i64 0), (.int .u8 0), (S ([] : List UInt8)), (.slice none 0 0), (S ([] : List UInt8))]) = (Value.agg #[(.int .i64 ((scanF no s).1.1)), (.int .u8 ((scanF no s).1.2.1)), (S ((scanF no s).1.2.2.1)), (.slice none 0 0), (S ((scanF no s).1.2.2.2.2))])) ∧ ((33 : Int) = (scanF no s).2) ∧ (([] : List (List UInt8)) = (scanF no s).1.2.2.2.1) := ⟨(by (rw [scan_unnamed (by assumption) (by assumption) (.inr (by assumption))]; try rfl; done)), (by (rw [scan_unnamed (by assumption) (by assumption) (.inr (by assumption))]; try rfl; done)), (by (rw [scan_unnamed (by assumption) (by assumption) (.inr (by assumption))]; try rfl; done))⟩
      exact ⟨(.slice none 0 0), xJ (hE.1) (congrArg (Value.int .i64) hE.2.1), (Row.nil _ _ _ _ _).cast hE.2.2, hb⟩
    ·intro h58
     refine zL (zL (zL (zE (zA (zF (zF (zD (zJ (L_not false (by kernel_rfl) (zJ (yF (by kernel_rfl) (yF (by kernel_rfl) (yF (by kernel_rfl) (yS (by kernel_rfl) (zE (zA (zV (by kernel_rfl) (zF (zD (zT (Value.agg #[(.int .i64 0), (.int .u8 0), (S ([] : List UInt8)), (.slice none 0 0), (S ([] : List UInt8))]) (by kernel_rfl) (by kernel_rfl) (yT b1 0 [(.int .i64 0), (.int .u8 0), (S ([] : List UInt8)), (.slice none 0 0), (S ([] : List UInt8))] [(.int .i64 0), (.int .u8 0), (S ([] : List UInt8)), (.slice none 0 0), (S ([] : List UInt8))] [(.int .i64 0), (.int .u8 0), (S ([] : List UInt8)), (.slice none 0 0), (S ([] : List UInt8))] 72 (by kernel_rfl) (by kernel_rfl) rfl (by kernel_rfl) o_x4 (by kernel_rfl) rfl ?_)))))))))))))))))))))
     intro w59 hW60
     replace hb := hb.trans (hW60.below g_x4)
     replace hs := Nat.le_trans hs (Nat.le_of_eq hW60.size.symm)
     replace o_x8 := zG o_x8 hW60 ne_x8_x4
     replace r_q16 := r_q16.wrote hW60 (r_q16.ne o_x4 (by simp))
     replace o_x4 := hW60.here
     refine zL (zE (zA (yA (zM (zX (zM ?_))))))
     refine zR [.cell 4 72, .tmp 5] [(Value.agg #[(.int .i64 0), (.int .u8 0), (S ([] : List UInt8)), (.slice none 0 0), (S ([] : List UInt8))]), (.int .i64 33)] rfl rfl ⟨⟨⟨b1, 0, none⟩, by kernel_rfl, xM [(.int .i64 0), (.int .u8 0), (S ([] : List UInt8)), (.slice none 0 0), (S ([] : List UInt8))] (by kernel_rfl) (by kernel_rfl) (xE o_x4)⟩, by kernel_rfl, trivial⟩ ?_
     have hE : ((Value.agg #[(.int .i64 0), (.int .u8 0), (S ([] : List UInt8)), (.slice none 0 0), (S ([] : List UInt8))]) = (Value.agg #[(.int .i64 ((scanF no s).1.1)), (.int .u8 ((scanF no s).1.2.1)), (S ((scanF no s).1.2.2.1)), (.slice none 0 0), (S ((scanF no s).1.2.2.2.2))])) ∧ ((33 : Int) = (scanF no s).2) ∧ (([] : List (List UInt8)) = (scanF no s).1.2.2.2.1) := ⟨(by (rw [scan_unnamed (by assumption) (by assumption) (.inl (by assumption))]; try rfl; done)), (by (rw [scan_unnamed (by assumption) (by assumption) (.inl (by assumption))]; try rfl; done)), (by (rw [scan_unnamed (by assumption) (by assumption) (.inl (by assumption))]; try rfl; done))⟩
     exact ⟨(.slice none 0 0), xJ (hE.1) (congrArg (Value.int .i64) hE.2.1), (Row.nil _ _ _ _ _).cast hE.2.2, hb⟩
   ·intro h61
    refine zL (zE (zA (zQ (by kernel_rfl) (zF (zD (zJ (L_sne (trmF ((Lib.cut s ([35] : List UInt8)).1)) ([] : List UInt8) rfl (by kernel_rfl) (by kernel_rfl) ?_ ?_)))))))
    ·intro h62
     refine zL (zE (zA (zV (by kernel_rfl) (zD (zT (.pointer (some ⟨b11, 1, none⟩)) (by kernel_rfl) (by kernel_rfl) (yZ b11 1 (.int .u8 1) [(.int .i64 no), (.int .u8 0), (S ([] : List UInt8)), q16, (S ((cutF s).2))] [(.int .i64 no), (.int .u8 1), (S ([] : List UInt8)), q16, (S ((cutF s).2))] 72 (by kernel_rfl) (by kernel_rfl) rfl (by kernel_rfl) o_x8 (by simp) rfl ?_))))))
     intro w63 hW64
     replace hb := hb.trans (hW64.below g_x8)
     replace hs := Nat.le_trans hs (Nat.le_of_eq hW64.size.symm)
     replace o_x4 := zG o_x4 hW64 ne_x4_x8
     replace r_q16 := r_q16.wrote hW64 (r_q16.ne o_x8 (by simp))
     replace o_x8 := hW64.here
     refine zE (zS (zA (zF (zD (xA b11 0 [(.int .i64 no), (.int .u8 1), (S ([] : List UInt8)), q16, (S ((cutF s).2))] (by kernel_rfl) (by kernel_rfl) (by kernel_rfl) (yP o_x8 0 (by kernel_rfl)) (yT b1 0 [(.int .i64 no), (.int .u8 1), (S ([] : List UInt8)), q16, (S ((cutF s).2))] [(.int .i64 0), (.int .u8 0), (S ([] : List UInt8)), (.slice none 0 0), (S ([] : List UInt8))] [(.int .i64 no), (.int .u8 1), (S ([] : List UInt8)), q16, (S ((cutF s).2))] 72 (by kernel_rfl) (by kernel_rfl) (allc rfl (allc rfl (allc rfl (allc r_q16.one (allc rfl rfl))))) (by kernel_rfl) o_x4 (by kernel_rfl) rfl ?_))))))
     intro w65 hW66
     replace hb := hb.trans (hW66.below g_x4)
     replace hs := Nat.le_trans hs (Nat.le_of_eq hW66.size.symm)
     replace o_x8 := zG o_x8 hW66 ne_x8_x4
     replace r_q16 := r_q16.wrote hW66 (r_q16.ne o_x4 (by simp))
     replace o_x4 := hW66.here
     refine zL (zE (zA (yA ?_)))
     refine zR [.cell 4 72, .tmp 5] [(Value.agg #[(.int .i64 no), (.int .u8 1), (S ([] : List UInt8)), q16, (S ((cutF s).2))]), (.int .i64 0)] rfl rfl ⟨⟨⟨b1, 0, none⟩, by kernel_rfl, xM [(.int .i64 no), (.int .u8 1), (S ([] : List UInt8)), q16, (S ((cutF s).2))] (by kernel_rfl) (by kernel_rfl) (xE o_x4)⟩, by kernel_rfl, trivial⟩ ?_
     have hE : ((Value.agg #[(.int .i64 no), (.int .u8 1), (S ([] : List UInt8)), q16, (S ((cutF s).2))]) = (Value.agg #[(.int .i64 ((scanF no s).1.1)), (.int .u8 ((scanF no s).1.2.1)), (S ((scanF no s).1.2.2.1)), q16, (S ((scanF no s).1.2.2.2.2))])) ∧ ((0 : Int) = (scanF no s).2) ∧ ((cutF s).1 = (scanF no s).1.2.2.2.1) := ⟨(by (rw [scan_data (by assumption) (by assumption) (by assumption)]; try rfl; done)), (by (rw [scan_data (by assumption) (by assumption) (by assumption)]; try rfl; done)), (by (rw [scan_data (by assumption) (by assumption) (by assumption)]; try rfl; done))⟩
     exact ⟨q16, xJ (hE.1) (congrArg (Value.int .i64) hE.2.1), r_q16.cast hE.2.2, hb⟩
    ·intro h67
     refine zL (zE (zA (zQ (by kernel_rfl) (zF (zD (zT (.pointer (some ⟨b11, 4, none⟩)) (by kernel_rfl) (by kernel_rfl) (yC b11 4 (S ((cutF s).2)) (by kernel_rfl) (by kernel_rfl) (zP o_x8 rfl) (yD 96 [(S ((cutF s).2)), (S ([64, 109, 105, 115, 115, 105, 110, 103, 58] : List UInt8))] (by kernel_rfl) (by kernel_rfl) (c_strings_HasPrefix ((cutF s).2) ([64, 109, 105, 115, 115, 105, 110, 103, 58] : List UInt8) _ ) ?_))))))))
     rintro _ w68 ⟨rfl, hB69⟩
     replace hb := hb.trans (hB69.mono hs)
     replace hs := Nat.le_trans hs (hB69.size)
     replace o_x4 := zB o_x4 hB69
     replace o_x8 := zB o_x8 hB69
     replace r_q16 := r_q16.below hB69
     refine xK (hpB ((cutF s).2) ([64, 109, 105, 115, 115, 105, 110, 103, 58] : List UInt8)) ?_ ?_
     ·intro h71
      have := hp_len h71; simp only [List.length_cons, List.length_nil] at this
      refine zL (zE (zA (zV (by kernel_rfl) (zF (zD (zT (.pointer (some ⟨b11, 1, none⟩)) (by kernel_rfl) (by kernel_rfl) (yZ b11 1 (.int .u8 3) [(.int .i64 no), (.int .u8 0), (S ([] : List UInt8)), q16, (S ((cutF s).2))] [(.int .i64 no), (.int .u8 3), (S ([] : List UInt8)), q16, (S ((cutF s).2))] 72 (by kernel_rfl) (by kernel_rfl) rfl (by kernel_rfl) o_x8 (by simp) rfl ?_)))))))
      intro w72 hW73
      replace hb := hb.trans (hW73.below g_x8)
      replace hs := Nat.le_trans hs (Nat.le_of_eq hW73.size.symm)
      replace o_x4 := zG o_x4 hW73 ne_x4_x8
      replace r_q16 := r_q16.wrote hW73 (r_q16.ne o_x8 (by simp))
      replace o_x8 := hW73.here
      refine zE (zA (zD (zT (.pointer (some ⟨b11, 4, none⟩)) (by kernel_rfl) (by kernel_rfl) (yC b11 4 (S ((cutF s).2)) (by kernel_rfl) (by kernel_rfl) (zP o_x8 rfl) (L_ssfrom ((cutF s).2) 9 Tryz.underlying9 (by kernel_rfl) ⟨.i64, by kernel_rfl⟩ (by omega) (yD 93 [(S (List.drop 9 ((cutF s).2)))] (by kernel_rfl) (by kernel_rfl) (c_lines_Cut (List.drop 9 ((cutF s).2)) _ (by (simp only [List.length_drop, List.length_take] at *; omega))) ?_))))))
      rintro _ w75 ⟨q74, rfl, r_q74, hB76⟩
      have ap_r_q74_r_q16 := ap_call r_q74 r_q16; have ap_r_q16_r_q74 := yO ap_r_q74_r_q16
      replace r_q74 := r_q74.base hs
      replace hb := hb.trans (hB76.mono hs)
      replace hs := Nat.le_trans hs (hB76.size)
      replace o_x4 := zB o_x4 hB76
      replace o_x8 := zB o_x8 hB76
      replace r_q16 := r_q16.below hB76
      refine zJ (zT q74 (by kernel_rfl) (by kernel_rfl) (zT (S ((cutF (List.drop 9 ((cutF s).2))).2)) (by kernel_rfl) (by kernel_rfl) (zT (.pointer (some ⟨b11, 3, none⟩)) (by kernel_rfl) (by kernel_rfl) (yZ b11 3 q74 [(.int .i64 no), (.int .u8 3), (S ([] : List UInt8)), q16, (S ((cutF s).2))] [(.int .i64 no), (.int .u8 3), (S ([] : List UInt8)), q74, (S ((cutF s).2))] 72 (by kernel_rfl) (by kernel_rfl) r_q74.one (by kernel_rfl) o_x8 (by simp) rfl ?_))))
      intro w78 hW79
      replace hb := hb.trans (hW79.below g_x8)
      replace hs := Nat.le_trans hs (Nat.le_of_eq hW79.size.symm)
      replace o_x4 := zG o_x4 hW79 ne_x4_x8
      replace r_q16 := r_q16.wrote hW79 (r_q16.ne o_x8 (by simp))
      replace r_q74 := r_q74.wrote hW79 (r_q74.ne o_x8 (by simp))
      replace o_x8 := hW79.here
      refine zT (.pointer (some ⟨b11, 4, none⟩)) (by kernel_rfl) (by kernel_rfl) (yZ b11 4 (S ((cutF (List.drop 9 ((cutF s).2))).2)) [(.int .i64 no), (.int .u8 3), (S ([] : List UInt8)), q74, (S ((cutF s).2))] [(.int .i64 no), (.int .u8 3), (S ([] : List UInt8)), q74, (S ((cutF (List.drop 9 ((cutF s).2))).2))] 72 (by kernel_rfl) (by kernel_rfl) rfl (by kernel_rfl) o_x8 (by simp) rfl ?_)
      intro w80 hW81
      replace hb := hb.trans (hW81.below g_x8)
      replace hs := Nat.le_trans hs (Nat.le_of_eq hW81.size.symm)
      replace o_x4 := zG o_x4 hW81 ne_x4_x8
      replace r_q16 := r_q16.wrote hW81 (r_q16.ne o_x8 (by simp))
      replace r_q74 := r_q74.wrote hW81 (r_q74.ne o_x8 (by simp))
      replace o_x8 := hW81.here
      refine zE (zS (zA (zF (zD (xA b11 0 [(.int .i64 no), (.int .u8 3), (S ([] : List UInt8)), q74, (S ((cutF (List.drop 9 ((cutF s).2))).2))] (by kernel_rfl) (by kernel_rfl) (by kernel_rfl) (yP o_x8 0 (by kernel_rfl)) (yT b1 0 [(.int .i64 no), (.int .u8 3), (S ([] : List UInt8)), q74, (S ((cutF (List.drop 9 ((cutF s).2))).2))] [(.int .i64 0), (.int .u8 0), (S ([] : List UInt8)), (.slice none 0 0), (S ([] : List UInt8))] [(.int .i64 no), (.int .u8 3), (S ([] : List UInt8)), q74, (S ((cutF (List.drop 9 ((cutF s).2))).2))] 72 (by kernel_rfl) (by kernel_rfl) (allc rfl (allc rfl (allc rfl (allc r_q74.one (allc rfl rfl))))) (by kernel_rfl) o_x4 (by kernel_rfl) rfl ?_))))))
      intro w82 hW83
      replace hb := hb.trans (hW83.below g_x4)
      replace hs := Nat.le_trans hs (Nat.le_of_eq hW83.size.symm)
      replace o_x8 := zG o_x8 hW83 ne_x8_x4
      replace r_q16 := r_q16.wrote hW83 (r_q16.ne o_x4 (by simp))
      replace r_q74 := r_q74.wrote hW83 (r_q74.ne o_x4 (by simp))
      replace o_x4 := hW83.here
      refine zL (zE (zA (yA ?_)))
      refine zR [.cell 4 72, .tmp 5] [(Value.agg #[(.int .i64 no), (.int .u8 3), (S ([] : List UInt8)), q74, (S ((cutF (List.drop 9 ((cutF s).2))).2))]), (.int .i64 0)] rfl rfl ⟨⟨⟨b1, 0, none⟩, by kernel_rfl, xM [(.int .i64 no), (.int .u8 3), (S ([] : List UInt8)), q74, (S ((cutF (List.drop 9 ((cutF s).2))).2))] (by kernel_rfl) (by kernel_rfl) (xE o_x4)⟩, by kernel_rfl, trivial⟩ ?_
      have hE : ((Value.agg #[(.int .i64 no), (.int .u8 3), (S ([] : List UInt8)), q74, (S ((cutF (List.drop 9 ((cutF s).2))).2))]) = (Value.agg #[(.int .i64 ((scanF no s).1.1)), (.int .u8 ((scanF no s).1.2.1)), (S ((scanF no s).1.2.2.1)), q74, (S ((scanF no s).1.2.2.2.2))])) ∧ ((0 : Int) = (scanF no s).2) ∧ ((cutF (List.drop 9 ((cutF s).2))).1 = (scanF no s).1.2.2.2.1) := ⟨(by (rw [scan_miss (by assumption) (by assumption) (by assumption)]; try rfl; done)), (by (rw [scan_miss (by assumption) (by assumption) (by assumption)]; try rfl; done)), (by (rw [scan_miss (by assumption) (by assumption) (by assumption)]; try rfl; done))⟩
      exact ⟨q74, xJ (hE.1) (congrArg (Value.int .i64) hE.2.1), r_q74.cast hE.2.2, hb⟩
     ·intro h84
      refine zL (zE (zA (zQ (by kernel_rfl) (zY (zS (zA (zF (zD (xA b11 0 [(.int .i64 no), (.int .u8 0), (S ([] : List UInt8)), q16, (S ((cutF s).2))] (by kernel_rfl) (by kernel_rfl) (by kernel_rfl) (yP o_x8 0 (by kernel_rfl)) (yT b1 0 [(.int .i64 no), (.int .u8 0), (S ([] : List UInt8)), q16, (S ((cutF s).2))] [(.int .i64 0), (.int .u8 0), (S ([] : List UInt8)), (.slice none 0 0), (S ([] : List UInt8))] [(.int .i64 no), (.int .u8 0), (S ([] : List UInt8)), q16, (S ((cutF s).2))] 72 (by kernel_rfl) (by kernel_rfl) (allc rfl (allc rfl (allc rfl (allc r_q16.one (allc rfl rfl))))) (by kernel_rfl) o_x4 (by kernel_rfl) rfl ?_))))))))))
      intro w85 hW86
      replace hb := hb.trans (hW86.below g_x4)
      replace hs := Nat.le_trans hs (Nat.le_of_eq hW86.size.symm)
      replace o_x8 := zG o_x8 hW86 ne_x8_x4
      replace r_q16 := r_q16.wrote hW86 (r_q16.ne o_x4 (by simp))
      replace o_x4 := hW86.here
      refine zL (zE (zA (yA ?_)))
      refine zR [.cell 4 72, .tmp 5] [(Value.agg #[(.int .i64 no), (.int .u8 0), (S ([] : List UInt8)), q16, (S ((cutF s).2))]), (.int .i64 0)] rfl rfl ⟨⟨⟨b1, 0, none⟩, by kernel_rfl, xM [(.int .i64 no), (.int .u8 0), (S ([] : List UInt8)), q16, (S ((cutF s).2))] (by kernel_rfl) (by kernel_rfl) (xE o_x4)⟩, by kernel_rfl, trivial⟩ ?_
      have hE : ((Value.agg #[(.int .i64 no), (.int .u8 0), (S ([] : List UInt8)), q16, (S ((cutF s).2))]) = (Value.agg #[(.int .i64 ((scanF no s).1.1)), (.int .u8 ((scanF no s).1.2.1)), (S ((scanF no s).1.2.2.1)), q16, (S ((scanF no s).1.2.2.2.2))])) ∧ ((0 : Int) = (scanF no s).2) ∧ ((cutF s).1 = (scanF no s).1.2.2.2.1) := ⟨(by (rw [scan_blank (by assumption) (by assumption) (by assumption)]; try rfl; done)), (by (rw [scan_blank (by assumption) (by assumption) (by assumption)]; try rfl; done)), (by (rw [scan_blank (by assumption) (by assumption) (by assumption)]; try rfl; done))⟩
      exact ⟨q16, xJ (hE.1) (congrArg (Value.int .i64) hE.2.1), r_q16.cast hE.2.2, hb⟩
  ·intro h87
   refine zL (zL (zL (zE (zA (zF (zD (zJ (yD 95 [(S ((Lib.cut s ([35] : List UInt8)).1))] (by kernel_rfl) (by kernel_rfl) (c_lines_trim ((Lib.cut s ([35] : List UInt8)).1) _ (by omega)) ?_))))))))
   rintro _ w88 ⟨rfl, hB89⟩
   replace hb := hb.trans (hB89.mono hs)
   replace hs := Nat.le_trans hs (hB89.size)
   replace o_x4 := zB o_x4 hB89
   replace o_x8 := zB o_x8 hB89
   replace r_q16 := r_q16.below hB89
   have := trm_len ((Lib.cut s ([35] : List UInt8)).1)
   refine zL (zE (zA (zF (yU (zF (zD (zJ (yD 96 [(S (trmF ((Lib.cut s ([35] : List UInt8)).1))), (S ([64] : List UInt8))] (by kernel_rfl) (by kernel_rfl) (c_strings_HasPrefix (trmF ((Lib.cut s ([35] : List UInt8)).1)) ([64] : List UInt8) _ ) ?_))))))))
   rintro _ w91 ⟨rfl, hB92⟩
   replace hb := hb.trans (hB92.mono hs)
   replace hs := Nat.le_trans hs (hB92.size)
   replace o_x4 := zB o_x4 hB92
   replace o_x8 := zB o_x8 hB92
   replace r_q16 := r_q16.below hB92
   refine xK (hpB (trmF ((Lib.cut s ([35] : List UInt8)).1)) ([64] : List UInt8)) ?_ ?_
   ·intro h94
    have := hp_len h94; simp only [List.length_cons, List.length_nil] at this
    refine zL (zE (zA (zV (by kernel_rfl) (zF (zD (zJ (L_ssfrom (trmF ((Lib.cut s ([35] : List UInt8)).1)) 1 Tryz.underlying9 (by kernel_rfl) ⟨.i64, by kernel_rfl⟩ (by omega) (yD 94 [(S (List.drop 1 (trmF ((Lib.cut s ([35] : List UInt8)).1)))), (S ([58] : List UInt8))] (by kernel_rfl) (by kernel_rfl) (c_strings_Cut (List.drop 1 (trmF ((Lib.cut s ([35] : List UInt8)).1))) ([58] : List UInt8) _ (by rfl) (by (simp only [List.length_drop, List.length_take] at *; omega))) ?_))))))))
    rintro _ w95 ⟨rfl, hB96⟩
    replace hb := hb.trans (hB96.mono hs)
    replace hs := Nat.le_trans hs (hB96.size)
    replace o_x4 := zB o_x4 hB96
    replace o_x8 := zB o_x8 hB96
    replace r_q16 := r_q16.below hB96
    have := cutl_len (List.drop 1 (trmF ((Lib.cut s ([35] : List UInt8)).1))) ([58] : List UInt8)
    refine zJ (zT (S ((Lib.cut (List.drop 1 (trmF ((Lib.cut s ([35] : List UInt8)).1))) ([58] : List UInt8)).1)) (by kernel_rfl) (by kernel_rfl) (zT (S ((Lib.cut (List.drop 1 (trmF ((Lib.cut s ([35] : List UInt8)).1))) ([58] : List UInt8)).2.1)) (by kernel_rfl) (by kernel_rfl) (zT (.bool ((Lib.cut (List.drop 1 (trmF ((Lib.cut s ([35] : List UInt8)).1))) ([58] : List UInt8)).2.2)) (by kernel_rfl) (by kernel_rfl) (xK ((Lib.cut (List.drop 1 (trmF ((Lib.cut s ([35] : List UInt8)).1))) ([58] : List UInt8)).2.2) ?_ ?_))))
    ·intro h98
     refine zL (zL (zL (zE (zA (zF (zF (zD (zJ (L_not true (by kernel_rfl) (zJ (zZ (by kernel_rfl) (zJ (zZ (by kernel_rfl) (yD 97 [(S ((Lib.cut (List.drop 1 (trmF ((Lib.cut s ([35] : List UInt8)).1))) ([58] : List UInt8)).1))] (by kernel_rfl) (by kernel_rfl) (c_lines_named ((Lib.cut (List.drop 1 (trmF ((Lib.cut s ([35] : List UInt8)).1))) ([58] : List UInt8)).1) _ (by (simp only [List.length_drop, List.length_take] at *; omega))) ?_))))))))))))))
     rintro _ w99 ⟨rfl, hB100⟩
     replace hb := hb.trans (hB100.mono hs)
     replace hs := Nat.le_trans hs (hB100.size)
     replace o_x4 := zB o_x4 hB100
     replace o_x8 := zB o_x8 hB100
     replace r_q16 := r_q16.below hB100
     refine xK (nameF ((Lib.cut (List.drop 1 (trmF ((Lib.cut s ([35] : List UInt8)).1))) ([58] : List UInt8)).1)) ?_ ?_
     ·intro h102
      refine zZ (by kernel_rfl) (L_not true (by kernel_rfl) (yR (by kernel_rfl) (zE (zA (zQ (by kernel_rfl) (zY (zA (zD (zJ (zJ (yD 98 [(S ((Lib.cut (List.drop 1 (trmF ((Lib.cut s ([35] : List UInt8)).1))) ([58] : List UInt8)).2.1))] (by kernel_rfl) (by kernel_rfl) (c_lines_fields ((Lib.cut (List.drop 1 (trmF ((Lib.cut s ([35] : List UInt8)).1))) ([58] : List UInt8)).2.1) _ (by (simp only [List.length_drop, List.length_take] at *; omega))) ?_)))))))))))
      rintro q103 w104 ⟨_, rfl, r_q103, hB105⟩
      have ap_r_q103_r_q16 := ap_call r_q103 r_q16; have ap_r_q16_r_q103 := yO ap_r_q103_r_q16
      replace r_q103 := r_q103.base hs
      replace hb := hb.trans (hB105.mono hs)
      replace hs := Nat.le_trans hs (hB105.size)
      replace o_x4 := zB o_x4 hB105
      replace o_x8 := zB o_x8 hB105
      replace r_q16 := r_q16.below hB105
      refine zT (.pointer (some ⟨b11, 1, none⟩)) (by kernel_rfl) (by kernel_rfl) (yZ b11 1 (.int .u8 2) [(.int .i64 no), (.int .u8 0), (S ([] : List UInt8)), q16, (S ((cutF s).2))] [(.int .i64 no), (.int .u8 2), (S ([] : List UInt8)), q16, (S ((cutF s).2))] 72 (by kernel_rfl) (by kernel_rfl) rfl (by kernel_rfl) o_x8 (by simp) rfl ?_)
      intro w107 hW108
      replace hb := hb.trans (hW108.below g_x8)
      replace hs := Nat.le_trans hs (Nat.le_of_eq hW108.size.symm)
      replace o_x4 := zG o_x4 hW108 ne_x4_x8
      replace r_q16 := r_q16.wrote hW108 (r_q16.ne o_x8 (by simp))
      replace r_q103 := r_q103.wrote hW108 (r_q103.ne o_x8 (by simp))
      replace o_x8 := hW108.here
      refine zT (.pointer (some ⟨b11, 2, none⟩)) (by kernel_rfl) (by kernel_rfl) (yZ b11 2 (S ((Lib.cut (List.drop 1 (trmF ((Lib.cut s ([35] : List UInt8)).1))) ([58] : List UInt8)).1)) [(.int .i64 no), (.int .u8 2), (S ([] : List UInt8)), q16, (S ((cutF s).2))] [(.int .i64 no), (.int .u8 2), (S ((Lib.cut (List.drop 1 (trmF ((Lib.cut s ([35] : List UInt8)).1))) ([58] : List UInt8)).1)), q16, (S ((cutF s).2))] 72 (by kernel_rfl) (by kernel_rfl) rfl (by kernel_rfl) o_x8 (by simp) rfl ?_)
      intro w109 hW110
      replace hb := hb.trans (hW110.below g_x8)
      replace hs := Nat.le_trans hs (Nat.le_of_eq hW110.size.symm)
      replace o_x4 := zG o_x4 hW110 ne_x4_x8
      replace r_q16 := r_q16.wrote hW110 (r_q16.ne o_x8 (by simp))
      replace r_q103 := r_q103.wrote hW110 (r_q103.ne o_x8 (by simp))
      replace o_x8 := hW110.here
      refine zT (.pointer (some ⟨b11, 3, none⟩)) (by kernel_rfl) (by kernel_rfl) (yZ b11 3 q103 [(.int .i64 no), (.int .u8 2), (S ((Lib.cut (List.drop 1 (trmF ((Lib.cut s ([35] : List UInt8)).1))) ([58] : List UInt8)).1)), q16, (S ((cutF s).2))] [(.int .i64 no), (.int .u8 2), (S ((Lib.cut (List.drop 1 (trmF ((Lib.cut s ([35] : List UInt8)).1))) ([58] : List UInt8)).1)), q103, (S ((cutF s).2))] 72 (by kernel_rfl) (by kernel_rfl) r_q103.one (by kernel_rfl) o_x8 (by simp) rfl ?_)
      intro w111 hW112
      replace hb := hb.trans (hW112.below g_x8)
      replace hs := Nat.le_trans hs (Nat.le_of_eq hW112.size.symm)
      replace o_x4 := zG o_x4 hW112 ne_x4_x8
      replace r_q16 := r_q16.wrote hW112 (r_q16.ne o_x8 (by simp))
      replace r_q103 := r_q103.wrote hW112 (r_q103.ne o_x8 (by simp))
      replace o_x8 := hW112.here
      refine zE (zS (zA (zF (zD (xA b11 0 [(.int .i64 no), (.int .u8 2), (S ((Lib.cut (List.drop 1 (trmF ((Lib.cut s ([35] : List UInt8)).1))) ([58] : List UInt8)).1)), q103, (S ((cutF s).2))] (by kernel_rfl) (by kernel_rfl) (by kernel_rfl) (yP o_x8 0 (by kernel_rfl)) (yT b1 0 [(.int .i64 no), (.int .u8 2), (S ((Lib.cut (List.drop 1 (trmF ((Lib.cut s ([35] : List UInt8)).1))) ([58] : List UInt8)).1)), q103, (S ((cutF s).2))] [(.int .i64 0), (.int .u8 0), (S ([] : List UInt8)), (.slice none 0 0), (S ([] : List UInt8))] [(.int .i64 no), (.int .u8 2), (S ((Lib.cut (List.drop 1 (trmF ((Lib.cut s ([35] : List UInt8)).1))) ([58] : List UInt8)).1)), q103, (S ((cutF s).2))] 72 (by kernel_rfl) (by kernel_rfl) (allc rfl (allc rfl (allc rfl (allc r_q103.one (allc rfl rfl))))) (by kernel_rfl) o_x4 (by kernel_rfl) rfl ?_))))))
      intro w113 hW114
      replace hb := hb.trans (hW114.below g_x4)
      replace hs := Nat.le_trans hs (Nat.le_of_eq hW114.size.symm)
      replace o_x8 := zG o_x8 hW114 ne_x8_x4
      replace r_q16 := r_q16.wrote hW114 (r_q16.ne o_x4 (by simp))
      replace r_q103 := r_q103.wrote hW114 (r_q103.ne o_x4 (by simp))
      replace o_x4 := hW114.here
      refine zL (zE (zA (yA ?_)))
      refine zR [.cell 4 72, .tmp 5] [(Value.agg #[(.int .i64 no), (.int .u8 2), (S ((Lib.cut (List.drop 1 (trmF ((Lib.cut s ([35] : List UInt8)).1))) ([58] : List UInt8)).1)), q103, (S ((cutF s).2))]), (.int .i64 0)] rfl rfl ⟨⟨⟨b1, 0, none⟩, by kernel_rfl, xM [(.int .i64 no), (.int .u8 2), (S ((Lib.cut (List.drop 1 (trmF ((Lib.cut s ([35] : List UInt8)).1))) ([58] : List UInt8)).1)), q103, (S ((cutF s).2))] (by kernel_rfl) (by kernel_rfl) (xE o_x4)⟩, by kernel_rfl, trivial⟩ ?_
      have hE : ((Value.agg #[(.int .i64 no), (.int .u8 2), (S ((Lib.cut (List.drop 1 (trmF ((Lib.cut s ([35] : List UInt8)).1))) ([58] : List UInt8)).1)), q103, (S ((cutF s).2))]) = (Value.agg #[(.int .i64 ((scanF no s).1.1)), (.int .u8 ((scanF no s).1.2.1)), (S ((scanF no s).1.2.2.1)), q103, (S ((scanF no s).1.2.2.2.2))])) ∧ ((0 : Int) = (scanF no s).2) ∧ (fieldsF ((Lib.cut (List.drop 1 (trmF ((Lib.cut s ([35] : List UInt8)).1))) ([58] : List UInt8)).2.1) = (scanF no s).1.2.2.2.1) := ⟨(by (rw [scan_order (by assumption) (by assumption) (by assumption) (by assumption)]; try rfl; done)), (by (rw [scan_order (by assumption) (by assumption) (by assumption) (by assumption)]; try rfl; done)), (by (rw [scan_order (by assumption) (by assumption) (by assumption) (by assumption)]; try rfl; done))⟩
      exact ⟨q103, xJ (hE.1) (congrArg (Value.int .i64) hE.2.1), r_q103.cast hE.2.2, hb⟩
     ·intro h115
      refine zZ (by kernel_rfl) (L_not false (by kernel_rfl) (yR (by kernel_rfl) (zE (zA (zV (by kernel_rfl) (zF (zD (zT (Value.agg #[(.int .i64 0), (.int .u8 0), (S ([] : List UInt8)), (.slice none 0 0), (S ([] : List UInt8))]) (by kernel_rfl) (by kernel_rfl) (yT b1 0 [(.int .i64 0), (.int .u8 0), (S ([] : List UInt8)), (.slice none 0 0), (S ([] : List UInt8))] [(.int .i64 0), (.int .u8 0), (S ([] : List UInt8)), (.slice none 0 0), (S ([] : List UInt8))] [(.int .i64 0), (.int .u8 0), (S ([] : List UInt8)), (.slice none 0 0), (S ([] : List UInt8))] 72 (by kernel_rfl) (by kernel_rfl) rfl (by kernel_rfl) o_x4 (by kernel_rfl) rfl ?_)))))))))
      intro w116 hW117
      replace hb := hb.trans (hW117.below g_x4)
      replace hs := Nat.le_trans hs (Nat.le_of_eq hW117.size.symm)
      replace o_x8 := zG o_x8 hW117 ne_x8_x4
      replace r_q16 := r_q16.wrote hW117 (r_q16.ne o_x4 (by simp))
      replace o_x4 := hW117.here
      refine zL (zE (zA (yA (zM (zX (zM ?_))))))
      refine zR [.cell 4 72, .tmp 5] [(Value.agg #[(.int .i64 0), (.int .u8 0), (S ([] : List UInt8)), (.slice none 0 0), (S ([] : List UInt8))]), (.int .i64 33)] rfl rfl ⟨⟨⟨b1, 0, none⟩, by kernel_rfl, xM [(.int .i64 0), (.int .u8 0), (S ([] : List UInt8)), (.slice none 0 0), (S ([] : List UInt8))] (by kernel_rfl) (by kernel_rfl) (xE o_x4)⟩, by kernel_rfl, trivial⟩ ?_
      have hE : ((Value.agg #[(.int .i64 0), (.int .u8 0), (S ([] : List UInt8)), (.slice none 0 0), (S ([] : List UInt8))]) = (Value.agg #[(.int .i64 ((scanF no s).1.1)), (.int .u8 ((scanF no s).1.2.1)), (S ((scanF no s).1.2.2.1)), (.slice none 0 0), (S ((scanF no s).1.2.2.2.2))])) ∧ ((33 : Int) = (scanF no s).2) ∧ (([] : List (List UInt8)) = (scanF no s).1.2.2.2.1) := ⟨(by (rw [scan_unnamed (by assumption) (by assumption) (.inr (by assumption))]; try rfl; done)), (by (rw [scan_unnamed (by assumption) (by assumption) (.inr (by assumption))]; try rfl; done)), (by (rw [scan_unnamed (by assumption) (by assumption) (.inr (by assumption))]; try rfl; done))⟩
      exact ⟨(.slice none 0 0), xJ (hE.1) (congrArg (Value.int .i64) hE.2.1), (Row.nil _ _ _ _ _).cast hE.2.2, hb⟩
    ·intro h118
     refine zL (zL (zL (zE (zA (zF (zF (zD (zJ (L_not false (by kernel_rfl) (zJ (yF (by kernel_rfl) (yF (by kernel_rfl) (yF (by kernel_rfl) (yS (by kernel_rfl) (zE (zA (zV (by kernel_rfl) (zF (zD (zT (Value.agg #[(.int .i64 0), (.int .u8 0), (S ([] : List UInt8)), (.slice none 0 0), (S ([] : List UInt8))]) (by kernel_rfl) (by kernel_rfl) (yT b1 0 [(.int .i64 0), (.int .u8 0), (S ([] : List UInt8)), (.slice none 0 0), (S ([] : List UInt8))] [(.int .i64 0), (.int .u8 0), (S ([] : List UInt8)), (.slice none 0 0), (S ([] : List UInt8))] [(.int .i64 0), (.int .u8 0), (S ([] : List UInt8)), (.slice none 0 0), (S ([] : List UInt8))] 72 (by kernel_rfl) (by kernel_rfl) rfl (by kernel_rfl) o_x4 (by kernel_rfl) rfl ?_)))))))))))))))))))))
     intro w119 hW120
     replace hb := hb.trans (hW120.below g_x4)
     replace hs := Nat.le_trans hs (Nat.le_of_eq hW120.size.symm)
     replace o_x8 := zG o_x8 hW120 ne_x8_x4
     replace r_q16 := r_q16.wrote hW120 (r_q16.ne o_x4 (by simp))
     replace o_x4 := hW120.here
     refine zL (zE (zA (yA (zM (zX (zM ?_))))))
     refine zR [.cell 4 72, .tmp 5] [(Value.agg #[(.int .i64 0), (.int .u8 0), (S ([] : List UInt8)), (.slice none 0 0), (S ([] : List UInt8))]), (.int .i64 33)] rfl rfl ⟨⟨⟨b1, 0, none⟩, by kernel_rfl, xM [(.int .i64 0), (.int .u8 0), (S ([] : List UInt8)), (.slice none 0 0), (S ([] : List UInt8))] (by kernel_rfl) (by kernel_rfl) (xE o_x4)⟩, by kernel_rfl, trivial⟩ ?_
     have hE : ((Value.agg #[(.int .i64 0), (.int .u8 0), (S ([] : List UInt8)), (.slice none 0 0), (S ([] : List UInt8))]) = (Value.agg #[(.int .i64 ((scanF no s).1.1)), (.int .u8 ((scanF no s).1.2.1)), (S ((scanF no s).1.2.2.1)), (.slice none 0 0), (S ((scanF no s).1.2.2.2.2))])) ∧ ((33 : Int) = (scanF no s).2) ∧ (([] : List (List UInt8)) = (scanF no s).1.2.2.2.1) := ⟨(by (rw [scan_unnamed (by assumption) (by assumption) (.inl (by assumption))]; try rfl; done)), (by (rw [scan_unnamed (by assumption) (by assumption) (.inl (by assumption))]; try rfl; done)), (by (rw [scan_unnamed (by assumption) (by assumption) (.inl (by assumption))]; try rfl; done))⟩
     exact ⟨(.slice none 0 0), xJ (hE.1) (congrArg (Value.int .i64) hE.2.1), (Row.nil _ _ _ _ _).cast hE.2.2, hb⟩
   ·intro h121
    refine zL (zE (zA (zQ (by kernel_rfl) (zF (zD (zJ (L_sne (trmF ((Lib.cut s ([35] : List UInt8)).1)) ([] : List UInt8) rfl (by kernel_rfl) (by kernel_rfl) ?_ ?_)))))))
    ·intro h122
     refine zL (zE (zA (zV (by kernel_rfl) (zD (zT (.pointer (some ⟨b11, 1, none⟩)) (by kernel_rfl) (by kernel_rfl) (yZ b11 1 (.int .u8 1) [(.int .i64 no), (.int .u8 0), (S ([] : List UInt8)), q16, (S ((cutF s).2))] [(.int .i64 no), (.int .u8 1), (S ([] : List UInt8)), q16, (S ((cutF s).2))] 72 (by kernel_rfl) (by kernel_rfl) rfl (by kernel_rfl) o_x8 (by simp) rfl ?_))))))
     intro w123 hW124
     replace hb := hb.trans (hW124.below g_x8)
     replace hs := Nat.le_trans hs (Nat.le_of_eq hW124.size.symm)
     replace o_x4 := zG o_x4 hW124 ne_x4_x8
     replace r_q16 := r_q16.wrote hW124 (r_q16.ne o_x8 (by simp))
     replace o_x8 := hW124.here
     refine zE (zS (zA (zF (zD (xA b11 0 [(.int .i64 no), (.int .u8 1), (S ([] : List UInt8)), q16, (S ((cutF s).2))] (by kernel_rfl) (by kernel_rfl) (by kernel_rfl) (yP o_x8 0 (by kernel_rfl)) (yT b1 0 [(.int .i64 no), (.int .u8 1), (S ([] : List UInt8)), q16, (S ((cutF s).2))] [(.int .i64 0), (.int .u8 0), (S ([] : List UInt8)), (.slice none 0 0), (S ([] : List UInt8))] [(.int .i64 no), (.int .u8 1), (S ([] : List UInt8)), q16, (S ((cutF s).2))] 72 (by kernel_rfl) (by kernel_rfl) (allc rfl (allc rfl (allc rfl (allc r_q16.one (allc rfl rfl))))) (by kernel_rfl) o_x4 (by kernel_rfl) rfl ?_))))))
     intro w125 hW126
     replace hb := hb.trans (hW126.below g_x4)
     replace hs := Nat.le_trans hs (Nat.le_of_eq hW126.size.symm)
     replace o_x8 := zG o_x8 hW126 ne_x8_x4
     replace r_q16 := r_q16.wrote hW126 (r_q16.ne o_x4 (by simp))
     replace o_x4 := hW126.here
     refine zL (zE (zA (yA ?_)))
     refine zR [.cell 4 72, .tmp 5] [(Value.agg #[(.int .i64 no), (.int .u8 1), (S ([] : List UInt8)), q16, (S ((cutF s).2))]), (.int .i64 0)] rfl rfl ⟨⟨⟨b1, 0, none⟩, by kernel_rfl, xM [(.int .i64 no), (.int .u8 1), (S ([] : List UInt8)), q16, (S ((cutF s).2))] (by kernel_rfl) (by kernel_rfl) (xE o_x4)⟩, by kernel_rfl, trivial⟩ ?_
     have hE : ((Value.agg #[(.int .i64 no), (.int .u8 1), (S ([] : List UInt8)), q16, (S ((cutF s).2))]) = (Value.agg #[(.int .i64 ((scanF no s).1.1)), (.int .u8 ((scanF no s).1.2.1)), (S ((scanF no s).1.2.2.1)), q16, (S ((scanF no s).1.2.2.2.2))])) ∧ ((0 : Int) = (scanF no s).2) ∧ ((cutF s).1 = (scanF no s).1.2.2.2.1) := ⟨(by (rw [scan_data (by assumption) (by assumption) (by assumption)]; try rfl; done)), (by (rw [scan_data (by assumption) (by assumption) (by assumption)]; try rfl; done)), (by (rw [scan_data (by assumption) (by assumption) (by assumption)]; try rfl; done))⟩
     exact ⟨q16, xJ (hE.1) (congrArg (Value.int .i64) hE.2.1), r_q16.cast hE.2.2, hb⟩
    ·intro h127
     refine zL (zE (zA (zQ (by kernel_rfl) (zF (zD (zT (.pointer (some ⟨b11, 4, none⟩)) (by kernel_rfl) (by kernel_rfl) (yC b11 4 (S ((cutF s).2)) (by kernel_rfl) (by kernel_rfl) (zP o_x8 rfl) (yD 96 [(S ((cutF s).2)), (S ([64, 109, 105, 115, 115, 105, 110, 103, 58] : List UInt8))] (by kernel_rfl) (by kernel_rfl) (c_strings_HasPrefix ((cutF s).2) ([64, 109, 105, 115, 115, 105, 110, 103, 58] : List UInt8) _ ) ?_))))))))
     rintro _ w128 ⟨rfl, hB129⟩
     replace hb := hb.trans (hB129.mono hs)
     replace hs := Nat.le_trans hs (hB129.size)
     replace o_x4 := zB o_x4 hB129
     replace o_x8 := zB o_x8 hB129
     replace r_q16 := r_q16.below hB129
     refine xK (hpB ((cutF s).2) ([64, 109, 105, 115, 115, 105, 110, 103, 58] : List UInt8)) ?_ ?_
     ·intro h131
      have := hp_len h131; simp only [List.length_cons, List.length_nil] at this
      refine zL (zE (zA (zV (by kernel_rfl) (zF (zD (zT (.pointer (some ⟨b11, 1, none⟩)) (by kernel_rfl) (by kernel_rfl) (yZ b11 1 (.int .u8 3) [(.int .i64 no), (.int .u8 0), (S ([] : List UInt8)), q16, (S ((cutF s).2))] [(.int .i64 no), (.int .u8 3), (S ([] : List UInt8)), q16, (S ((cutF s).2))] 72 (by kernel_rfl) (by kernel_rfl) rfl (by kernel_rfl) o_x8 (by simp) rfl ?_)))))))
      intro w132 hW133
      replace hb := hb.trans (hW133.below g_x8)
      replace hs := Nat.le_trans hs (Nat.le_of_eq hW133.size.symm)
      replace o_x4 := zG o_x4 hW133 ne_x4_x8
      replace r_q16 := r_q16.wrote hW133 (r_q16.ne o_x8 (by simp))
      replace o_x8 := hW133.here
      refine zE (zA (zD (zT (.pointer (some ⟨b11, 4, none⟩)) (by kernel_rfl) (by kernel_rfl) (yC b11 4 (S ((cutF s).2)) (by kernel_rfl) (by kernel_rfl) (zP o_x8 rfl) (L_ssfrom ((cutF s).2) 9 Tryz.underlying9 (by kernel_rfl) ⟨.i64, by kernel_rfl⟩ (by omega) (yD 93 [(S (List.drop 9 ((cutF s).2)))] (by kernel_rfl) (by kernel_rfl) (c_lines_Cut (List.drop 9 ((cutF s).2)) _ (by (simp only [List.length_drop, List.length_take] at *; omega))) ?_))))))
      rintro _ w135 ⟨q134, rfl, r_q134, hB136⟩
      have ap_r_q134_r_q16 := ap_call r_q134 r_q16; have ap_r_q16_r_q134 := yO ap_r_q134_r_q16
      replace r_q134 := r_q134.base hs
      replace hb := hb.trans (hB136.mono hs)
      replace hs := Nat.le_trans hs (hB136.size)
      replace o_x4 := zB o_x4 hB136
      replace o_x8 := zB o_x8 hB136
      replace r_q16 := r_q16.below hB136
      refine zJ (zT q134 (by kernel_rfl) (by kernel_rfl) (zT (S ((cutF (List.drop 9 ((cutF s).2))).2)) (by kernel_rfl) (by kernel_rfl) (zT (.pointer (some ⟨b11, 3, none⟩)) (by kernel_rfl) (by kernel_rfl) (yZ b11 3 q134 [(.int .i64 no), (.int .u8 3), (S ([] : List UInt8)), q16, (S ((cutF s).2))] [(.int .i64 no), (.int .u8 3), (S ([] : List UInt8)), q134, (S ((cutF s).2))] 72 (by kernel_rfl) (by kernel_rfl) r_q134.one (by kernel_rfl) o_x8 (by simp) rfl ?_))))
      intro w138 hW139
      replace hb := hb.trans (hW139.below g_x8)
      replace hs := Nat.le_trans hs (Nat.le_of_eq hW139.size.symm)
      replace o_x4 := zG o_x4 hW139 ne_x4_x8
      replace r_q16 := r_q16.wrote hW139 (r_q16.ne o_x8 (by simp))
      replace r_q134 := r_q134.wrote hW139 (r_q134.ne o_x8 (by simp))
      replace o_x8 := hW139.here
      refine zT (.pointer (some ⟨b11, 4, none⟩)) (by kernel_rfl) (by kernel_rfl) (yZ b11 4 (S ((cutF (List.drop 9 ((cutF s).2))).2)) [(.int .i64 no), (.int .u8 3), (S ([] : List UInt8)), q134, (S ((cutF s).2))] [(.int .i64 no), (.int .u8 3), (S ([] : List UInt8)), q134, (S ((cutF (List.drop 9 ((cutF s).2))).2))] 72 (by kernel_rfl) (by kernel_rfl) rfl (by kernel_rfl) o_x8 (by simp) rfl ?_)
      intro w140 hW141
      replace hb := hb.trans (hW141.below g_x8)
      replace hs := Nat.le_trans hs (Nat.le_of_eq hW141.size.symm)
      replace o_x4 := zG o_x4 hW141 ne_x4_x8
      replace r_q16 := r_q16.wrote hW141 (r_q16.ne o_x8 (by simp))
      replace r_q134 := r_q134.wrote hW141 (r_q134.ne o_x8 (by simp))
      replace o_x8 := hW141.here
      refine zE (zS (zA (zF (zD (xA b11 0 [(.int .i64 no), (.int .u8 3), (S ([] : List UInt8)), q134, (S ((cutF (List.drop 9 ((cutF s).2))).2))] (by kernel_rfl) (by kernel_rfl) (by kernel_rfl) (yP o_x8 0 (by kernel_rfl)) (yT b1 0 [(.int .i64 no), (.int .u8 3), (S ([] : List UInt8)), q134, (S ((cutF (List.drop 9 ((cutF s).2))).2))] [(.int .i64 0), (.int .u8 0), (S ([] : List UInt8)), (.slice none 0 0), (S ([] : List UInt8))] [(.int .i64 no), (.int .u8 3), (S ([] : List UInt8)), q134, (S ((cutF (List.drop 9 ((cutF s).2))).2))] 72 (by kernel_rfl) (by kernel_rfl) (allc rfl (allc rfl (allc rfl (allc r_q134.one (allc rfl rfl))))) (by kernel_rfl) o_x4 (by kernel_rfl) rfl ?_))))))
      intro w142 hW143
      replace hb := hb.trans (hW143.below g_x4)
      replace hs := Nat.le_trans hs (Nat.le_of_eq hW143.size.symm)
      replace o_x8 := zG o_x8 hW143 ne_x8_x4
      replace r_q16 := r_q16.wrote hW143 (r_q16.ne o_x4 (by simp))
      replace r_q134 := r_q134.wrote hW143 (r_q134.ne o_x4 (by simp))
      replace o_x4 := hW143.here
      refine zL (zE (zA (yA ?_)))
      refine zR [.cell 4 72, .tmp 5] [(Value.agg #[(.int .i64 no), (.int .u8 3), (S ([] : List UInt8)), q134, (S ((cutF (List.drop 9 ((cutF s).2))).2))]), (.int .i64 0)] rfl rfl ⟨⟨⟨b1, 0, none⟩, by kernel_rfl, xM [(.int .i64 no), (.int .u8 3), (S ([] : List UInt8)), q134, (S ((cutF (List.drop 9 ((cutF s).2))).2))] (by kernel_rfl) (by kernel_rfl) (xE o_x4)⟩, by kernel_rfl, trivial⟩ ?_
      have hE : ((Value.agg #[(.int .i64 no), (.int .u8 3), (S ([] : List UInt8)), q134, (S ((cutF (List.drop 9 ((cutF s).2))).2))]) = (Value.agg #[(.int .i64 ((scanF no s).1.1)), (.int .u8 ((scanF no s).1.2.1)), (S ((scanF no s).1.2.2.1)), q134, (S ((scanF no s).1.2.2.2.2))])) ∧ ((0 : Int) = (scanF no s).2) ∧ ((cutF (List.drop 9 ((cutF s).2))).1 = (scanF no s).1.2.2.2.1) := ⟨(by (rw [scan_miss (by assumption) (by assumption) (by assumption)]; try rfl; done)), (by (rw [scan_miss (by assumption) (by assumption) (by assumption)]; try rfl; done)), (by (rw [scan_miss (by assumption) (by assumption) (by assumption)]; try rfl; done))⟩
      exact ⟨q134, xJ (hE.1) (congrArg (Value.int .i64) hE.2.1), r_q134.cast hE.2.2, hb⟩
     ·intro h144
      refine zL (zE (zA (zQ (by kernel_rfl) (zY (zS (zA (zF (zD (xA b11 0 [(.int .i64 no), (.int .u8 0), (S ([] : List UInt8)), q16, (S ((cutF s).2))] (by kernel_rfl) (by kernel_rfl) (by kernel_rfl) (yP o_x8 0 (by kernel_rfl)) (yT b1 0 [(.int .i64 no), (.int .u8 0), (S ([] : List UInt8)), q16, (S ((cutF s).2))] [(.int .i64 0), (.int .u8 0), (S ([] : List UInt8)), (.slice none 0 0), (S ([] : List UInt8))] [(.int .i64 no), (.int .u8 0), (S ([] : List UInt8)), q16, (S ((cutF s).2))] 72 (by kernel_rfl) (by kernel_rfl) (allc rfl (allc rfl (allc rfl (allc r_q16.one (allc rfl rfl))))) (by kernel_rfl) o_x4 (by kernel_rfl) rfl ?_))))))))))
      intro w145 hW146
      replace hb := hb.trans (hW146.below g_x4)
      replace hs := Nat.le_trans hs (Nat.le_of_eq hW146.size.symm)
      replace o_x8 := zG o_x8 hW146 ne_x8_x4
      replace r_q16 := r_q16.wrote hW146 (r_q16.ne o_x4 (by simp))
      replace o_x4 := hW146.here
      refine zL (zE (zA (yA ?_)))
      refine zR [.cell 4 72, .tmp 5] [(Value.agg #[(.int .i64 no), (.int .u8 0), (S ([] : List UInt8)), q16, (S ((cutF s).2))]), (.int .i64 0)] rfl rfl ⟨⟨⟨b1, 0, none⟩, by kernel_rfl, xM [(.int .i64 no), (.int .u8 0), (S ([] : List UInt8)), q16, (S ((cutF s).2))] (by kernel_rfl) (by kernel_rfl) (xE o_x4)⟩, by kernel_rfl, trivial⟩ ?_
      have hE : ((Value.agg #[(.int .i64 no), (.int .u8 0), (S ([] : List UInt8)), q16, (S ((cutF s).2))]) = (Value.agg #[(.int .i64 ((scanF no s).1.1)), (.int .u8 ((scanF no s).1.2.1)), (S ((scanF no s).1.2.2.1)), q16, (S ((scanF no s).1.2.2.2.2))])) ∧ ((0 : Int) = (scanF no s).2) ∧ ((cutF s).1 = (scanF no s).1.2.2.2.1) := ⟨(by (rw [scan_blank (by assumption) (by assumption) (by assumption)]; try rfl; done)), (by (rw [scan_blank (by assumption) (by assumption) (by assumption)]; try rfl; done)), (by (rw [scan_blank (by assumption) (by assumption) (by assumption)]; try rfl; done))⟩
      exact ⟨q16, xJ (hE.1) (congrArg (Value.int .i64) hE.2.1), r_q16.cast hE.2.2, hb⟩
end Go.Proofs.YtkclikfejmeblaaGreatDoor
end
