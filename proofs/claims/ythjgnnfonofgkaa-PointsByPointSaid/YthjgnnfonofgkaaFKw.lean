/- FKw: rows whose elements hold rows of texts of their own (lines with their fields). My own text. -/
import Derived.Test.YthjgnnfonofgkaaFKt
namespace Go.FK
open Go Go.RowKit
/-- A line: number, kind, name, fields (the slice and what it holds), note. -/
abbrev LineV := Int × Int × List UInt8 × (Value × List (List UInt8)) × List UInt8
def LineV.v (x : LineV) : Value := x.2.2.2.1.1
def LineV.fs (x : LineV) : List (List UInt8) := x.2.2.2.1.2
def encLine (x : LineV) : List Value := [.int .i64 x.1, .int .u8 x.2.1, S x.2.2.1, x.v, S x.2.2.2.2]
def stripL (x : LineV) : Int × Int × List UInt8 × List (List UInt8) × List UInt8 := (x.1, x.2.1, x.2.2.1, x.fs, x.2.2.2.2)
/-- A row of lines, each with its own row of fields (F: the type of texts). -/
def NRow (F : Nat) (w : World) (B E k : Nat) (enc : LineV → List Value) (v : Value) (xs : List LineV) : Prop :=
  Row w B E k enc v xs ∧ ∀ x ∈ xs, Row w B F 1 encStr x.v x.fs
/-- Its blocks. -/
def NOwn (v : Value) (xs : List LineV) (g : Nat) : Prop := v.ownBlock = some g ∨ ∃ x ∈ xs, x.v.ownBlock = some g
section
variable {F : Nat} {w w' : World} {B E k : Nat} {enc : LineV → List Value} {v v' : Value} {xs ys : List LineV}
theorem NRow.nil (F : Nat) (w : World) (B E k : Nat) (enc : LineV → List Value) : NRow F w B E k enc (.slice none 0 0) [] := ⟨Row.nil _ _ _ _ _, fun _ h => by cases h⟩
theorem NRow.below (h : NRow F w B E k enc v xs) (hb : Below w.heap.size w w') : NRow F w' B E k enc v xs := ⟨h.1.below hb, fun x hx => (h.2 x hx).below hb⟩
theorem NRow.base {B' : Nat} (h : NRow F w B E k enc v xs) (hB : B' ≤ B) : NRow F w B' E k enc v xs := ⟨h.1.base hB, fun x hx => (h.2 x hx).base hB⟩
theorem NRow.rd (h : NRow F w B E k enc v xs) : Rd w enc v xs := h.1.rd
theorem NRow.cast (h : NRow F w B E k enc v xs) (e : xs = ys) : NRow F w B E k enc v ys := e ▸ h
theorem NRow.one (h : NRow F w B E k enc v xs) : v.oneCell' = true := h.1.one
theorem NRow.inner {x : LineV} (h : NRow F w B E k enc v xs) (hx : x ∈ xs) : Row w B F 1 encStr x.v x.fs := h.2 x hx
theorem NRow.ne {b : Nat} {o : Obj} (h : NRow F w B E k enc v xs) (hb : w.heap[b]? = some o) (ho : (∀ cur, o ≠ .cells cur E (0, 0)) ∧ ∀ cur, o ≠ .cells cur F (0, 0)) : ¬ NOwn v xs b := by
  rintro (h1 | ⟨x, hx, h1⟩)
  · exact h.1.ne hb ho.1 h1
  · exact (h.2 x hx).ne hb ho.2 h1
theorem NRow.wrote {b : Nat} {o : Obj} (h : NRow F w B E k enc v xs) (hw : Wrote w w' b o) (hne : ¬ NOwn v xs b) : NRow F w' B E k enc v xs :=
  ⟨h.1.wrote hw (fun e => hne (.inl e)), fun x hx => (h.2 x hx).wrote hw (fun e => hne (.inr ⟨x, hx, e⟩))⟩
theorem NRow.new_ne {b : Nat} {o : Obj} (h : NRow F w B E k enc v xs) (hN : New w w' b o) : ¬ NOwn v xs b := by
  rintro (h1 | ⟨x, hx, h1⟩)
  · exact h.1.new_ne hN h1
  · exact (h.2 x hx).new_ne hN h1
theorem nbN_nil (b : Nat) : ¬ NOwn (.slice none 0 0) [] b := by
  rintro (h1 | ⟨x, hx, h1⟩)
  · simp [Value.ownBlock] at h1
  · cases hx
theorem nbN_push {b : Nat} {x : LineV} (h : ¬ NOwn v xs b) (h2 : v'.ownBlock ≠ some b) (hq : x.v.ownBlock ≠ some b) : ¬ NOwn v' (xs ++ [x]) b := by
  rintro (h1 | ⟨y, hy, h1⟩)
  · exact h2 h1
  · rcases List.mem_append.1 hy with hy | hy
    · exact h (.inr ⟨y, hy, h1⟩)
    · obtain rfl := List.mem_singleton.1 hy
      exact hq h1
/-- A row that grows is none of its blocks. -/
def NAp (v : Value) (xs : List LineV) (row : Option Nat) : Prop := (v.ownBlock = none ∨ v.ownBlock ≠ row) ∧ ∀ x ∈ xs, x.v.ownBlock = none ∨ x.v.ownBlock ≠ row
theorem NAp.none (v : Value) (xs : List LineV) : NAp v xs none := by
  refine ⟨?_, fun x _ => ?_⟩
  · cases h : v.ownBlock <;> simp
  · cases h : x.v.ownBlock <;> simp
theorem NRow.grown {row : Option Nat} (h : NRow F w B E k enc v xs) (hg : w.grownBy w' row) (hne : NAp v xs row) : NRow F w' B E k enc v xs := ⟨h.1.grown hg hne.1, fun x hx => (h.2 x hx).grown hg (hne.2 x hx)⟩
theorem NRow.apart {β : Type} {B' E' k' : Nat} {enc' : β → List Value} {u : Value} {zs : List β} (h : NRow F w B E k enc v xs) (h' : Row w B' E' k' enc' u zs) (hE : (Nat.beq E E' || Nat.beq F E') = false) : NAp v xs u.ownBlock := by
  rw [Bool.or_eq_false_iff] at hE
  exact ⟨h.1.apart h' hE.1, fun x hx => (h.2 x hx).apart h' hE.2⟩
theorem NRow.ch {D : Nat → Prop} (h : NRow F w B E k enc v xs) (hc : Ch D w w') (hn : ∀ g, NOwn v xs g → ¬ D g) : NRow F w' B E k enc v xs :=
  ⟨h.1.ch hc (fun g e => hn g (.inl e)), fun x hx => (h.2 x hx).ch hc (fun g e => hn g (.inr ⟨x, hx, e⟩))⟩
theorem NRow.lt (h : NRow F w B E k enc v xs) : ∀ g, NOwn v xs g → B ≤ g ∧ g < w.heap.size := by
  rintro g (h1 | ⟨x, hx, h1⟩)
  · exact World.ownsRow.lt h.1 g h1
  · exact World.ownsRow.lt (h.2 x hx) g h1
/-- One line more. -/
theorem NRow.push {x : LineV} (h : NRow F w B E k enc v xs) (hg : w.grownBy w' v.ownBlock) (hr : Row w' B E k enc v' (xs ++ [x])) (hq : Row w' B F 1 encStr x.v x.fs) (hE : Nat.beq F E = false) : NRow F w' B E k enc v' (xs ++ [x]) := by
  refine ⟨hr, fun y hy => ?_⟩
  rcases List.mem_append.1 hy with hy | hy
  · exact (h.2 y hy).grown hg ((h.2 y hy).apart h.1 hE)
  · obtain rfl := List.mem_singleton.1 hy
    exact hq
theorem nrN_nil (K0 K : Nat) : ∀ g, NOwn (.slice none 0 0) [] g → ¬ Iv K0 K g := by
  rintro g (h | ⟨x, hx, _⟩)
  · exact nr_nil K0 K g h
  · cases hx
theorem nrN_old (h : NRow F w B E k enc v xs) (K : Nat) : ∀ g, NOwn v xs g → ¬ Iv w.heap.size K g := fun g hg hI => by
  have h1 := (h.lt g hg).2
  have h2 := hI.1
  omega
theorem nrN_row {n K0 K : Nat} (h : NRow F w n E k enc v xs) (hK : K ≤ n) : ∀ g, NOwn v xs g → ¬ Iv K0 K g := fun g hg hI => by
  have h1 := (h.lt g hg).1
  have h2 := hI.2
  omega
theorem nrN_push {K0 K : Nat} {x : LineV} (h : ∀ g, NOwn v xs g → ¬ Iv K0 K g) (h2 : ∀ g, v'.ownBlock = some g → ¬ Iv K0 K g) (hq : ∀ g, x.v.ownBlock = some g → ¬ Iv K0 K g) : ∀ g, NOwn v' (xs ++ [x]) g → ¬ Iv K0 K g := by
  rintro g (h1 | ⟨y, hy, h1⟩)
  · exact h2 g h1
  · rcases List.mem_append.1 hy with hy | hy
    · exact h g (.inr ⟨y, hy, h1⟩)
    · obtain rfl := List.mem_singleton.1 hy
      exact hq g h1
end
theorem allc {v : Value} {l : List Value} (h : v.oneCell' = true) (h2 : l.all (·.oneCell') = true) : (v :: l).all (·.oneCell') = true := by rw [List.all_cons, h, h2]; rfl
/-- Lines whose texts are known. -/
theorem strip_two {xs : List LineV} {a b : Int × Int × List UInt8 × List (List UInt8) × List UInt8} (h : xs.map stripL = [a, b]) : ∃ v u : Value, xs = [(a.1, a.2.1, a.2.2.1, (v, a.2.2.2.1), a.2.2.2.2), (b.1, b.2.1, b.2.2.1, (u, b.2.2.2.1), b.2.2.2.2)] := by
  rcases xs with _ | ⟨x, _ | ⟨y, _ | ⟨z, l⟩⟩⟩
  · cases h
  · simp at h
  · obtain ⟨x1, x2, x3, ⟨xv, xf⟩, x5⟩ := x
    obtain ⟨y1, y2, y3, ⟨yv, yf⟩, y5⟩ := y
    simp only [List.map_cons, List.map_nil, List.cons.injEq, and_true] at h
    obtain ⟨rfl, rfl⟩ := h
    exact ⟨xv, yv, rfl⟩
  · simp at h
end Go.FK
