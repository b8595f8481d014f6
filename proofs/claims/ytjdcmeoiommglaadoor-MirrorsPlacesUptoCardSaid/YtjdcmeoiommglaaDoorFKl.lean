/- FKl: a strings.Builder of the call's own, carried over the steps of a walk; its methods. My own text, over the kit's shelf. -/
import Derived.Test.YtjdcmeoiommglaaDoorFKo
import Derived.Shelf.Strings.BuilderK
import Derived.Lib.OthersKept
set_option linter.unusedVariables false
set_option linter.unusedSimpArgs false
namespace Go.FK
open Go Go.RowKit
/-- A builder in block b that holds the bytes l. -/
def Bld (T E B b : Nat) (l : List UInt8) (w : World) : Prop := Lib.IsBuilderF T E B b (Lib.byteCells l) w
theorem Bld.at {T E B b : Nat} {l : List UInt8} {w : World} (h : Bld T E B b l w) : B ≤ b ∧ ∃ p v, w.heap[b]? = some (.cells #[p, v] T (0, 0)) := by
  rcases h with ⟨hB, v, hb, _⟩ | ⟨hB, v, hb, _⟩
  · exact ⟨hB, _, v, hb⟩
  · exact ⟨hB, _, v, hb⟩
theorem Bld.of {T E B b : Nat} {w : World} (hb : w.heap[b]? = some (.cells [Value.pointer none, Value.slice none 0 0].toArray T (0, 0))) (hB : B ≤ b) : Bld T E B b [] w := by
  refine .inl ⟨hB, .slice none 0 0, hb, ?_, by simp [Value.ownBlock]⟩
  exact World.ownsRowF_of (World.ownsRow_nil _ _ _ _)
theorem Bld.lt {T E B b : Nat} {l : List UInt8} {w : World} (h : Bld T E B b l w) : b < w.heap.size := by
  obtain ⟨_, p, v, hb⟩ := h.at
  exact obj_lt hb
theorem Bld.cast {T E B b : Nat} {l m : List UInt8} {w : World} (h : Bld T E B b l w) (e : l = m) : Bld T E B b m w := e ▸ h
theorem bldAt_same {T E B b : Nat} {p : Value} {bs : List Value} {w w' : World} (h : Lib.BuilderAtF T E B b p bs w) (hk : ∀ k : Nat, (∃ cs X fz, w.heap[k]? = some (.cells cs X fz) ∧ (X = T ∨ X = E)) → w'.heap[k]? = w.heap[k]?) : Lib.BuilderAtF T E B b p bs w' := by
  obtain ⟨hB, v, hb, hown, hne⟩ := h
  refine ⟨hB, v, (hk b ⟨_, _, _, hb, .inl rfl⟩).trans hb, ⟨hown.1, ?_⟩, hne⟩
  rcases hown.2 with hn | ⟨g, cap, cur, fz, hv, hbg, hg, rest⟩
  · exact .inl hn
  · exact .inr ⟨g, cap, cur, fz, hv, hbg, (hk g ⟨_, _, _, hg, .inr rfl⟩).trans hg, rest⟩
theorem Bld.same {T E B b : Nat} {l : List UInt8} {w w' : World} (h : Bld T E B b l w) (hk : ∀ k : Nat, (∃ cs X fz, w.heap[k]? = some (.cells cs X fz) ∧ (X = T ∨ X = E)) → w'.heap[k]? = w.heap[k]?) : Bld T E B b l w' :=
  h.elim (fun x => .inl (bldAt_same x hk)) (fun x => .inr (bldAt_same x hk))
theorem Bld.below {T E B b : Nat} {l : List UInt8} {w w' : World} (h : Bld T E B b l w) (hb : Below w.heap.size w w') : Bld T E B b l w' :=
  h.same fun k ⟨_, _, _, hk, _⟩ => hb.block k (Array.getElem?_eq_some_iff.1 hk).1
theorem Bld.wrote {T E B b k : Nat} {l : List UInt8} {w w' : World} {o o0 : Obj} (h : Bld T E B b l w) (hW : Wrote w w' k o) (hk : w.heap[k]? = some o0) (ho : ∀ cs X fz, o0 = .cells cs X fz → X ≠ T ∧ X ≠ E) : Bld T E B b l w' :=
  h.same fun j ⟨cs, X, fz, hj, hX⟩ => hW.other j fun e => by
    subst e
    rw [hk] at hj
    have := ho cs X fz (Option.some.inj hj)
    rcases hX with e1 | e1
    · exact this.1 e1
    · exact this.2 e1
theorem Bld.grown {α : Type} {T E B b B' E' k' : Nat} {l : List UInt8} {w w' : World} {enc : α → List Value} {v : Value} {xs : List α} (h : Bld T E B b l w) (hg : w.grownBy w' v.ownBlock) (hr : Row w B' E' k' enc v xs) (h1 : Nat.beq E' T = false) (h2 : Nat.beq E' E = false) : Bld T E B b l w' := by
  refine h.same fun j ⟨cs, X, fz, hj, hX⟩ => ?_
  refine hg.block j (obj_lt hj) fun e => ?_
  rcases hr.2 with ⟨rfl, _⟩ | ⟨g, cap, cur, rfl, _, hh, _⟩
  · simp [Value.ownBlock] at e
  · simp [Value.ownBlock] at e
    subst e
    rw [hh] at hj
    have hj := Option.some.inj hj
    injection hj with _ e2 _
    subst e2
    rcases hX with rfl | rfl
    · simp at h1
    · simp at h2
theorem Bld.obj_kept {T E B b k : Nat} {l : List UInt8} {w w' : World} {o : Obj} (h : Bld T E B b l w) (hO : Lib.OthersKept E (some b) w w') (hk : w.heap[k]? = some o) (ho : ∀ cs X fz, o = .cells cs X fz → X ≠ T ∧ X ≠ E) : w'.heap[k]? = some o := by
  refine hO k o hk (fun e => ?_) (fun cs fz e => ?_)
  · obtain ⟨_, p, v, hb⟩ := h.at
    have e := Option.some.inj e
    subst e
    rw [hb] at hk
    exact (ho _ _ _ (Option.some.inj hk).symm).1 rfl
  · exact (ho _ _ _ e).2 rfl
theorem Bld.row_kept {α : Type} {T E B b B' E' k' : Nat} {l : List UInt8} {w w' : World} {enc : α → List Value} {v : Value} {xs : List α} (h : Bld T E B b l w) (hO : Lib.OthersKept E (some b) w w') (hr : Row w B' E' k' enc v xs) (h1 : Nat.beq E' T = false) (h2 : Nat.beq E' E = false) : Row w' B' E' k' enc v xs := by
  refine ⟨hr.1, ?_⟩
  rcases hr.2 with hn | ⟨g, cap, cur, hv, hg, hh, rest⟩
  · exact .inl hn
  · refine .inr ⟨g, cap, cur, hv, hg, h.obj_kept hO hh ?_, rest⟩
    intro cs X fz e
    injection e with _ e2 _
    subst e2
    exact ⟨fun e => by rw [e] at h1; simp at h1, fun e => by rw [e] at h2; simp at h2⟩
/-! ### its methods -/
theorem bytes_app (l m : List UInt8) : Lib.byteCells l ++ Lib.byteCells m = Lib.byteCells (l ++ m) := by simp [Lib.byteCells]
theorem wrStr {P : Program} {f : FuncId} {T E B b : Nat} (h1 : ∀ (B b : Nat) (bs : List Value) (s : ByteArray) (w : World), Lib.IsBuilderF T E B b bs w → bs.length + s.size ≤ 140737488355328 → B ≤ w.heap.size →
      Calls P f #[.pointer (some ⟨b, 0, none⟩), .string s] w fun e w' => e = .returned (.tuple #[.int .i64 s.size, .nilIface]) ∧ (Lib.BuilderAtF T E B b (.pointer (some ⟨b, 0, none⟩)) (bs ++ Lib.strCells s) w' ∧ Below B w w' ∧ Lib.OthersKept E (some b) w w'))
    (l s : List UInt8) (w : World) (h : Bld T E B b l w) (hl : l.length ≤ 1073741824) (hs : s.length ≤ 1073741824) (hB : B ≤ w.heap.size) :
    Calls P f #[.pointer (some ⟨b, 0, none⟩), S s] w (Ret fun v w' => v = .tuple #[.int .i64 (s.length : Nat), .nilIface] ∧ Bld T E B b (l ++ s) w' ∧ Below B w w' ∧ Lib.OthersKept E (some b) w w') := by
  refine (h1 B b (Lib.byteCells l) ⟨s.toArray⟩ w h ?_ hB).mono ?_
  · have : (Lib.byteCells l).length = l.length := by simp [Lib.byteCells]
    rw [this]; show l.length + s.toArray.size ≤ _; simp; omega
  · rintro e w' ⟨rfl, h2, h3, h4⟩
    refine ⟨_, rfl, ?_, .inr ?_, h3, h4⟩
    · show Value.tuple #[.int .i64 ((s.toArray.size : Nat) : Int), .nilIface] = _
      simp
    · rw [← bytes_app]
      exact h2
theorem wrByte {P : Program} {f : FuncId} {T E B b : Nat} (h1 : ∀ (B b : Nat) (bs : List Value) (c : Int) (w : World), Lib.IsBuilderF T E B b bs w → bs.length + 1 ≤ 140737488355328 → B ≤ w.heap.size →
      Calls P f #[.pointer (some ⟨b, 0, none⟩), .int .u8 c] w fun e w' => e = .returned .nilIface ∧ (Lib.BuilderAtF T E B b (.pointer (some ⟨b, 0, none⟩)) (bs ++ [.int .u8 c]) w' ∧ Below B w w' ∧ Lib.OthersKept E (some b) w w'))
    (l : List UInt8) (c : UInt8) (w : World) (h : Bld T E B b l w) (hl : l.length ≤ 1073741824) (hB : B ≤ w.heap.size) :
    Calls P f #[.pointer (some ⟨b, 0, none⟩), .int .u8 ((c.toNat : Nat) : Int)] w (Ret fun v w' => v = .nilIface ∧ Bld T E B b (l ++ [c]) w' ∧ Below B w w' ∧ Lib.OthersKept E (some b) w w') := by
  refine (h1 B b (Lib.byteCells l) ((c.toNat : Nat) : Int) w h ?_ hB).mono ?_
  · have : (Lib.byteCells l).length = l.length := by simp [Lib.byteCells]
    rw [this]; omega
  · rintro e w' ⟨rfl, h2, h3, h4⟩
    refine ⟨_, rfl, rfl, .inr ?_, h3, h4⟩
    rw [← bytes_app]
    exact h2
theorem bldStr {P : Program} {f : FuncId} {T E B b : Nat} (h1 : ∀ (B b : Nat) (l : List UInt8) (w : World), Lib.IsBuilderF T E B b (Lib.byteCells l) w → B ≤ w.heap.size →
      Calls P f #[.pointer (some ⟨b, 0, none⟩)] w fun e w' => e = .returned (.string ⟨l.toArray⟩) ∧ (Lib.IsBuilderF T E B b (Lib.byteCells l) w' ∧ Below B w w' ∧ Lib.OthersKept E (some b) w w'))
    (l : List UInt8) (w : World) (h : Bld T E B b l w) (hB : B ≤ w.heap.size) :
    Calls P f #[.pointer (some ⟨b, 0, none⟩)] w (Ret fun v w' => v = S l ∧ Bld T E B b l w' ∧ Below B w w' ∧ Lib.OthersKept E (some b) w w') := by
  refine (h1 B b l w h hB).mono ?_
  rintro e w' ⟨rfl, h2, h3, h4⟩
  exact ⟨_, rfl, rfl, h2, h3, h4⟩
end Go.FK
