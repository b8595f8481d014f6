/- FKq: arguments of plain data, opened: structs, slices of plain elements, lines. My own text. -/
import Derived.Test.YthjgnnfonofgkaaFKx
import Derived.Lib.Join
set_option linter.unusedVariables false
namespace Go.FK
open Go Go.RowKit Go.ChangeShapes Go.WideShapes
/-- A slice whose length is within its capacity. -/
def CapOk (v : Value) : Prop := ∀ a n c, v = .slice a n c → n ≤ c
theorem all_choose {α : Type} {n : Nat} {p : Nat → α → Prop} (h : ∀ i, i < n → ∃ a, p i a) : ∃ xs : List α, xs.length = n ∧ ∀ i a, xs[i]? = some a → p i a := by
  refine ⟨List.ofFn (fun i : Fin n => Classical.choose (h i.1 i.2)), by simp, fun i a hi => ?_⟩
  rw [List.getElem?_ofFn] at hi
  split at hi
  · rename_i hn
    cases hi
    exact Classical.choose_spec (h i hn)
  · cases hi
/-- Elements of type t are k cells, told by 'enc'; as data they are 'dat'. -/
structure Flat (P : Program) (t : TypeId) (k : Nat) {α : Type} (enc : α → List Value) (dat : (H : Type) → α → DataW H) (good : α → Prop) : Prop where
  len : ∀ a, (enc a).length = k
  size : P.cellsOf t = k
  dec : ∀ {H : Type} {en : TypeId × Value → H} {w : World} {base : Nat} {spare : Nat → Bool} {held : Bool} {n : Nat} {cs : List Value} {x : DataW H × List MemPlace}, DataW.trod en P w base spare held n t cs = some x → ∃ a, cs = enc a ∧ x = (dat H a, []) ∧ good a
section
variable {P : Program} {t : TypeId}
theorem flat_int {k : IntKind} (ht : P.underlying t = some (.int k)) (hc : P.cellsOf t = 1) : Flat P t 1 (fun x : Int => [.int k x]) (fun H x => .lit (.int k x)) (fun x => (Lit.int k x).wf = true) := ⟨fun _ => rfl, hc, fun h => by
  obtain ⟨n, h1, h2, h3⟩ := DataW.trod_int ht h
  exact ⟨n, h1, h2, h3⟩⟩
theorem flat_bool (ht : P.underlying t = some .bool) (hc : P.cellsOf t = 1) : Flat P t 1 (fun x : Bool => [.bool x]) (fun H x => .lit (.bool x)) (fun _ => True) := ⟨fun _ => rfl, hc, fun h => by
  obtain ⟨n, h1, h2⟩ := DataW.trod_bool ht h
  exact ⟨n, h1, h2, trivial⟩⟩
theorem flat_flt {k : FloatKind} (ht : P.underlying t = some (.float k)) (hc : P.cellsOf t = 1) : Flat P t 1 (fun x : Nat => [.float k x]) (fun H x => .lit (.float k x)) (fun x => (Lit.float k x).wf = true) := ⟨fun _ => rfl, hc, fun {_ _ _ _ _ _ n cs x} h => by
  cases n with
  | zero => simp [DataW.trod] at h
  | succ n =>
    unfold DataW.trod at h
    rw [ht] at h
    split at h <;> simp_all⟩
theorem flat_str (ht : P.underlying t = some .string) (hc : P.cellsOf t = 1) : Flat P t 1 encStr (fun H x => .lit (.string x)) (fun x => x.length ≤ maxLen) := ⟨fun _ => rfl, hc, fun h => by
  obtain ⟨s, h1, h2, h3⟩ := DataW.trod_string ht h
  exact ⟨s.data.toList, by rw [h1]; rfl, h2, by simpa using h3⟩⟩

theorem trod_cells2 {H : Type} {en : TypeId × Value → H} {w : World} {base : Nat} {spare : Nat → Bool} {held : Bool} {n : Nat} {cs : List Value} {x : DataW H × List MemPlace} {f0 f1 : Field} (hs : P.underlying t = some (.struct #[f0, f1])) (hone : Go.Deep.oneCellFields P #[f0, f1] = true) (hC : P.cellsOf t = 2)
    (h : DataW.trod en P w base spare held n t cs = some x) : ∃ c0 c1, ∃ (y0 y1 : DataW H × List MemPlace), ∃ m, cs = [c0, c1] ∧ x = (.agg [y0.1, y1.1], y0.2 ++ (y1.2)) ∧ DataW.trod en P w base spare held m f0.type [c0] = some y0 ∧ DataW.trod en P w base spare held m f1.type [c1] = some y1 := by
  obtain ⟨xs, m, _, rfl, hl, hlen, hf⟩ := DataW.trod_struct hs h
  rw [hC] at hl
  match xs, hlen, cs, hl with
  | [y0, y1], _, [c0, c1], _ =>
    refine ⟨c0, c1, y0, y1, m, rfl, by simp, ?_, ?_⟩
    · have q := Go.Deep.hone_of hone 0 f0 rfl
      have z := hf 0 f0 rfl
      rw [q.1, q.2] at z
      exact z
    · have q := Go.Deep.hone_of hone 1 f1 rfl
      have z := hf 1 f1 rfl
      rw [q.1, q.2] at z
      exact z
theorem flat_struct2 {α0 α1 : Type} {e0 : α0 → List Value} {d0 : (H : Type) → α0 → DataW H} {g0 : α0 → Prop} {e1 : α1 → List Value} {d1 : (H : Type) → α1 → DataW H} {g1 : α1 → Prop} {f0 f1 : Field} (hs : P.underlying t = some (.struct #[f0, f1])) (hone : Go.Deep.oneCellFields P #[f0, f1] = true) (hC : P.cellsOf t = 2) (F0 : Flat P f0.type 1 e0 d0 g0) (F1 : Flat P f1.type 1 e1 d1 g1) :
    Flat P t 2 (fun a : α0 × α1 => e0 (a.1) ++ e1 (a.2)) (fun H a => .agg [d0 H (a.1), d1 H (a.2)]) (fun a => g0 (a.1) ∧ g1 (a.2)) := ⟨fun a => by simp only [List.length_append, F0.len, F1.len], hC, fun h => by
  obtain ⟨c0, c1, y0, y1, m, rfl, rfl, h0, h1⟩ := trod_cells2 hs hone hC h
  obtain ⟨a0, q0, rfl, k0⟩ := F0.dec h0
  obtain ⟨a1, q1, rfl, k1⟩ := F1.dec h1
  refine ⟨(a0, a1), ?_, rfl, k0, k1⟩
  simp only
  rw [← q0, ← q1]; rfl⟩
theorem trod_cells3 {H : Type} {en : TypeId × Value → H} {w : World} {base : Nat} {spare : Nat → Bool} {held : Bool} {n : Nat} {cs : List Value} {x : DataW H × List MemPlace} {f0 f1 f2 : Field} (hs : P.underlying t = some (.struct #[f0, f1, f2])) (hone : Go.Deep.oneCellFields P #[f0, f1, f2] = true) (hC : P.cellsOf t = 3)
    (h : DataW.trod en P w base spare held n t cs = some x) : ∃ c0 c1 c2, ∃ (y0 y1 y2 : DataW H × List MemPlace), ∃ m, cs = [c0, c1, c2] ∧ x = (.agg [y0.1, y1.1, y2.1], y0.2 ++ (y1.2 ++ (y2.2))) ∧ DataW.trod en P w base spare held m f0.type [c0] = some y0 ∧ DataW.trod en P w base spare held m f1.type [c1] = some y1 ∧ DataW.trod en P w base spare held m f2.type [c2] = some y2 := by
  obtain ⟨xs, m, _, rfl, hl, hlen, hf⟩ := DataW.trod_struct hs h
  rw [hC] at hl
  match xs, hlen, cs, hl with
  | [y0, y1, y2], _, [c0, c1, c2], _ =>
    refine ⟨c0, c1, c2, y0, y1, y2, m, rfl, by simp, ?_, ?_, ?_⟩
    · have q := Go.Deep.hone_of hone 0 f0 rfl
      have z := hf 0 f0 rfl
      rw [q.1, q.2] at z
      exact z
    · have q := Go.Deep.hone_of hone 1 f1 rfl
      have z := hf 1 f1 rfl
      rw [q.1, q.2] at z
      exact z
    · have q := Go.Deep.hone_of hone 2 f2 rfl
      have z := hf 2 f2 rfl
      rw [q.1, q.2] at z
      exact z
theorem flat_struct3 {α0 α1 α2 : Type} {e0 : α0 → List Value} {d0 : (H : Type) → α0 → DataW H} {g0 : α0 → Prop} {e1 : α1 → List Value} {d1 : (H : Type) → α1 → DataW H} {g1 : α1 → Prop} {e2 : α2 → List Value} {d2 : (H : Type) → α2 → DataW H} {g2 : α2 → Prop} {f0 f1 f2 : Field} (hs : P.underlying t = some (.struct #[f0, f1, f2])) (hone : Go.Deep.oneCellFields P #[f0, f1, f2] = true) (hC : P.cellsOf t = 3) (F0 : Flat P f0.type 1 e0 d0 g0) (F1 : Flat P f1.type 1 e1 d1 g1) (F2 : Flat P f2.type 1 e2 d2 g2) :
    Flat P t 3 (fun a : α0 × α1 × α2 => e0 (a.1) ++ e1 (a.2.1) ++ e2 (a.2.2)) (fun H a => .agg [d0 H (a.1), d1 H (a.2.1), d2 H (a.2.2)]) (fun a => g0 (a.1) ∧ g1 (a.2.1) ∧ g2 (a.2.2)) := ⟨fun a => by simp only [List.length_append, F0.len, F1.len, F2.len], hC, fun h => by
  obtain ⟨c0, c1, c2, y0, y1, y2, m, rfl, rfl, h0, h1, h2⟩ := trod_cells3 hs hone hC h
  obtain ⟨a0, q0, rfl, k0⟩ := F0.dec h0
  obtain ⟨a1, q1, rfl, k1⟩ := F1.dec h1
  obtain ⟨a2, q2, rfl, k2⟩ := F2.dec h2
  refine ⟨(a0, a1, a2), ?_, rfl, k0, k1, k2⟩
  simp only
  rw [← q0, ← q1, ← q2]; rfl⟩
theorem trod_cells4 {H : Type} {en : TypeId × Value → H} {w : World} {base : Nat} {spare : Nat → Bool} {held : Bool} {n : Nat} {cs : List Value} {x : DataW H × List MemPlace} {f0 f1 f2 f3 : Field} (hs : P.underlying t = some (.struct #[f0, f1, f2, f3])) (hone : Go.Deep.oneCellFields P #[f0, f1, f2, f3] = true) (hC : P.cellsOf t = 4)
    (h : DataW.trod en P w base spare held n t cs = some x) : ∃ c0 c1 c2 c3, ∃ (y0 y1 y2 y3 : DataW H × List MemPlace), ∃ m, cs = [c0, c1, c2, c3] ∧ x = (.agg [y0.1, y1.1, y2.1, y3.1], y0.2 ++ (y1.2 ++ (y2.2 ++ (y3.2)))) ∧ DataW.trod en P w base spare held m f0.type [c0] = some y0 ∧ DataW.trod en P w base spare held m f1.type [c1] = some y1 ∧ DataW.trod en P w base spare held m f2.type [c2] = some y2 ∧ DataW.trod en P w base spare held m f3.type [c3] = some y3 := by
  obtain ⟨xs, m, _, rfl, hl, hlen, hf⟩ := DataW.trod_struct hs h
  rw [hC] at hl
  match xs, hlen, cs, hl with
  | [y0, y1, y2, y3], _, [c0, c1, c2, c3], _ =>
    refine ⟨c0, c1, c2, c3, y0, y1, y2, y3, m, rfl, by simp, ?_, ?_, ?_, ?_⟩
    · have q := Go.Deep.hone_of hone 0 f0 rfl
      have z := hf 0 f0 rfl
      rw [q.1, q.2] at z
      exact z
    · have q := Go.Deep.hone_of hone 1 f1 rfl
      have z := hf 1 f1 rfl
      rw [q.1, q.2] at z
      exact z
    · have q := Go.Deep.hone_of hone 2 f2 rfl
      have z := hf 2 f2 rfl
      rw [q.1, q.2] at z
      exact z
    · have q := Go.Deep.hone_of hone 3 f3 rfl
      have z := hf 3 f3 rfl
      rw [q.1, q.2] at z
      exact z
theorem flat_struct4 {α0 α1 α2 α3 : Type} {e0 : α0 → List Value} {d0 : (H : Type) → α0 → DataW H} {g0 : α0 → Prop} {e1 : α1 → List Value} {d1 : (H : Type) → α1 → DataW H} {g1 : α1 → Prop} {e2 : α2 → List Value} {d2 : (H : Type) → α2 → DataW H} {g2 : α2 → Prop} {e3 : α3 → List Value} {d3 : (H : Type) → α3 → DataW H} {g3 : α3 → Prop} {f0 f1 f2 f3 : Field} (hs : P.underlying t = some (.struct #[f0, f1, f2, f3])) (hone : Go.Deep.oneCellFields P #[f0, f1, f2, f3] = true) (hC : P.cellsOf t = 4) (F0 : Flat P f0.type 1 e0 d0 g0) (F1 : Flat P f1.type 1 e1 d1 g1) (F2 : Flat P f2.type 1 e2 d2 g2) (F3 : Flat P f3.type 1 e3 d3 g3) :
    Flat P t 4 (fun a : α0 × α1 × α2 × α3 => e0 (a.1) ++ e1 (a.2.1) ++ e2 (a.2.2.1) ++ e3 (a.2.2.2)) (fun H a => .agg [d0 H (a.1), d1 H (a.2.1), d2 H (a.2.2.1), d3 H (a.2.2.2)]) (fun a => g0 (a.1) ∧ g1 (a.2.1) ∧ g2 (a.2.2.1) ∧ g3 (a.2.2.2)) := ⟨fun a => by simp only [List.length_append, F0.len, F1.len, F2.len, F3.len], hC, fun h => by
  obtain ⟨c0, c1, c2, c3, y0, y1, y2, y3, m, rfl, rfl, h0, h1, h2, h3⟩ := trod_cells4 hs hone hC h
  obtain ⟨a0, q0, rfl, k0⟩ := F0.dec h0
  obtain ⟨a1, q1, rfl, k1⟩ := F1.dec h1
  obtain ⟨a2, q2, rfl, k2⟩ := F2.dec h2
  obtain ⟨a3, q3, rfl, k3⟩ := F3.dec h3
  refine ⟨(a0, a1, a2, a3), ?_, rfl, k0, k1, k2, k3⟩
  simp only
  rw [← q0, ← q1, ← q2, ← q3]; rfl⟩
theorem trod_cells5 {H : Type} {en : TypeId × Value → H} {w : World} {base : Nat} {spare : Nat → Bool} {held : Bool} {n : Nat} {cs : List Value} {x : DataW H × List MemPlace} {f0 f1 f2 f3 f4 : Field} (hs : P.underlying t = some (.struct #[f0, f1, f2, f3, f4])) (hone : Go.Deep.oneCellFields P #[f0, f1, f2, f3, f4] = true) (hC : P.cellsOf t = 5)
    (h : DataW.trod en P w base spare held n t cs = some x) : ∃ c0 c1 c2 c3 c4, ∃ (y0 y1 y2 y3 y4 : DataW H × List MemPlace), ∃ m, cs = [c0, c1, c2, c3, c4] ∧ x = (.agg [y0.1, y1.1, y2.1, y3.1, y4.1], y0.2 ++ (y1.2 ++ (y2.2 ++ (y3.2 ++ (y4.2))))) ∧ DataW.trod en P w base spare held m f0.type [c0] = some y0 ∧ DataW.trod en P w base spare held m f1.type [c1] = some y1 ∧ DataW.trod en P w base spare held m f2.type [c2] = some y2 ∧ DataW.trod en P w base spare held m f3.type [c3] = some y3 ∧ DataW.trod en P w base spare held m f4.type [c4] = some y4 := by
  obtain ⟨xs, m, _, rfl, hl, hlen, hf⟩ := DataW.trod_struct hs h
  rw [hC] at hl
  match xs, hlen, cs, hl with
  | [y0, y1, y2, y3, y4], _, [c0, c1, c2, c3, c4], _ =>
    refine ⟨c0, c1, c2, c3, c4, y0, y1, y2, y3, y4, m, rfl, by simp, ?_, ?_, ?_, ?_, ?_⟩
    · have q := Go.Deep.hone_of hone 0 f0 rfl
      have z := hf 0 f0 rfl
      rw [q.1, q.2] at z
      exact z
    · have q := Go.Deep.hone_of hone 1 f1 rfl
      have z := hf 1 f1 rfl
      rw [q.1, q.2] at z
      exact z
    · have q := Go.Deep.hone_of hone 2 f2 rfl
      have z := hf 2 f2 rfl
      rw [q.1, q.2] at z
      exact z
    · have q := Go.Deep.hone_of hone 3 f3 rfl
      have z := hf 3 f3 rfl
      rw [q.1, q.2] at z
      exact z
    · have q := Go.Deep.hone_of hone 4 f4 rfl
      have z := hf 4 f4 rfl
      rw [q.1, q.2] at z
      exact z
theorem flat_struct5 {α0 α1 α2 α3 α4 : Type} {e0 : α0 → List Value} {d0 : (H : Type) → α0 → DataW H} {g0 : α0 → Prop} {e1 : α1 → List Value} {d1 : (H : Type) → α1 → DataW H} {g1 : α1 → Prop} {e2 : α2 → List Value} {d2 : (H : Type) → α2 → DataW H} {g2 : α2 → Prop} {e3 : α3 → List Value} {d3 : (H : Type) → α3 → DataW H} {g3 : α3 → Prop} {e4 : α4 → List Value} {d4 : (H : Type) → α4 → DataW H} {g4 : α4 → Prop} {f0 f1 f2 f3 f4 : Field} (hs : P.underlying t = some (.struct #[f0, f1, f2, f3, f4])) (hone : Go.Deep.oneCellFields P #[f0, f1, f2, f3, f4] = true) (hC : P.cellsOf t = 5) (F0 : Flat P f0.type 1 e0 d0 g0) (F1 : Flat P f1.type 1 e1 d1 g1) (F2 : Flat P f2.type 1 e2 d2 g2) (F3 : Flat P f3.type 1 e3 d3 g3) (F4 : Flat P f4.type 1 e4 d4 g4) :
    Flat P t 5 (fun a : α0 × α1 × α2 × α3 × α4 => e0 (a.1) ++ e1 (a.2.1) ++ e2 (a.2.2.1) ++ e3 (a.2.2.2.1) ++ e4 (a.2.2.2.2)) (fun H a => .agg [d0 H (a.1), d1 H (a.2.1), d2 H (a.2.2.1), d3 H (a.2.2.2.1), d4 H (a.2.2.2.2)]) (fun a => g0 (a.1) ∧ g1 (a.2.1) ∧ g2 (a.2.2.1) ∧ g3 (a.2.2.2.1) ∧ g4 (a.2.2.2.2)) := ⟨fun a => by simp only [List.length_append, F0.len, F1.len, F2.len, F3.len, F4.len], hC, fun h => by
  obtain ⟨c0, c1, c2, c3, c4, y0, y1, y2, y3, y4, m, rfl, rfl, h0, h1, h2, h3, h4⟩ := trod_cells5 hs hone hC h
  obtain ⟨a0, q0, rfl, k0⟩ := F0.dec h0
  obtain ⟨a1, q1, rfl, k1⟩ := F1.dec h1
  obtain ⟨a2, q2, rfl, k2⟩ := F2.dec h2
  obtain ⟨a3, q3, rfl, k3⟩ := F3.dec h3
  obtain ⟨a4, q4, rfl, k4⟩ := F4.dec h4
  refine ⟨(a0, a1, a2, a3, a4), ?_, rfl, k0, k1, k2, k3, k4⟩
  simp only
  rw [← q0, ← q1, ← q2, ← q3, ← q4]; rfl⟩
theorem flat_idx {α : Type} {enc : α → List Value} {k : Nat} (hk : ∀ a, (enc a).length = k) (hp : 0 < k) {xs : List α} {j : Nat} {u : Value} (h : (xs.flatMap enc)[j]? = some u) : ∃ x, xs[j / k]? = some x ∧ (enc x)[j % k]? = some u := by
  have hlen : ∀ l : List α, (l.flatMap enc).length = l.length * k := fun l => by
    induction l with
    | nil => simp
    | cons a l ih => rw [List.flatMap_cons, List.length_append, ih, hk, List.length_cons, Nat.succ_mul]; omega
  have hj := (List.getElem?_eq_some_iff.1 h).1
  rw [hlen] at hj
  have hi : j / k < xs.length := Nat.div_lt_of_lt_mul (by rw [Nat.mul_comm]; exact hj)
  obtain ⟨x, hx⟩ := get_some xs (j / k) hi
  have := flat_at enc k hk xs (j / k) (j % k) hx (Nat.mod_lt _ hp)
  rw [Nat.mul_comm, Nat.div_add_mod, h] at this
  exact ⟨x, hx, this.symm⟩
theorem add_two (a : Addr) {i j l : Nat} (h : j = i + l) : a.add j = (a.add i).add l := by
  by_cases h1 : i = 0
  · subst h1; rw [Nat.zero_add] at h; subst h; simp [Addr.add]
  · by_cases h2 : l = 0
    · subst h2; subst h; simp [Addr.add]
    · have : j ≠ 0 := by omega
      simp only [Addr.add, h1, h2, this, if_false]; subst h; rw [Nat.add_assoc]
variable {H : Type} {en : TypeId × Value → H} {w : World} {base n : Nat} {spare : Nat → Bool} {held : Bool} {cs : List Value} {x : DataW H × List MemPlace}
/-- A slice of plain elements. -/
theorem open_flat {e k : Nat} {α : Type} {enc : α → List Value} {dat : (H : Type) → α → DataW H} {good : α → Prop} (F : Flat P e k enc dat good) (hp : 0 < k) (ht : P.underlying t = some (.slice e)) (h : DataW.trod en P w base spare held n t cs = some x) :
    ∃ v, ∃ xs : List α, ∃ rest : List (DataW H), cs = [v] ∧ Rd w enc v xs ∧ CapOk v ∧ (∀ a ∈ xs, good a) ∧ (x.1 = .nil ∧ xs = [] ∨ x.1 = .slice (xs.map (dat H)) rest) := by
  rcases DataW.trod_slice ht h with ⟨rfl, rfl⟩ | ⟨a, len, cap, elems, rest, m, _, rfl, rfl, hb, hl, hm, hlen, hel, _, _⟩
  · exact ⟨_, [], [], rfl, ⟨none, 0, rfl, .inl rfl⟩, (fun a n c q => by cases q; exact Nat.le_refl _), (fun _ q => by cases q), .inl ⟨rfl, rfl⟩⟩
  · have hz : ∀ i, i < len → ∃ b : α, elems[i]? = some (dat H b, []) ∧ good b ∧ w.cells? base (a.add (i * P.cellsOf e)) (P.cellsOf e) = some (enc b) := by
      intro i hi
      have q := hel i hi
      obtain ⟨y, hy⟩ := get_some elems i (by omega)
      rw [hy, Option.bind_eq_some_iff] at q
      obtain ⟨cs', q1, q2⟩ := q
      obtain ⟨b, rfl, rfl, g⟩ := F.dec q2
      exact ⟨b, hy, g, q1⟩
    obtain ⟨xs, hxl, hx⟩ := all_choose hz
    refine ⟨_, xs, rest.map (·.1), rfl, ?_, fun a' n' c' q => by cases q; exact hl, fun b hb => ?_, .inr ?_⟩
    · refine ⟨some a, cap, by rw [hxl], ?_⟩
      by_cases h0 : xs.length = 0
      · exact .inl h0
      · right
        have cell : ∀ j u, (xs.flatMap enc)[j]? = some u → w.cell? (a.add j) = some u := by
          intro j u hu
          obtain ⟨b, hb1, hb2⟩ := flat_idx F.len hp hu
          obtain ⟨_, hcl, hc⟩ := World.cells?_some (hx _ _ hb1).2.2
          rw [F.size] at hc
          have := hc (j % k) (Nat.mod_lt _ hp)
          rw [hb2] at this
          rw [← this, show a.add j = (a.add (j / k * k)).add (j % k) from add_two a (by have := Nat.div_add_mod j k; rw [Nat.mul_comm] at this; omega)]
        obtain ⟨g, off, spot⟩ := a
        have hspot : spot = none := by
          obtain ⟨b, hb⟩ := get_some xs 0 (by omega)
          obtain ⟨u, hu⟩ := get_some (enc b) 0 (by rw [F.len]; exact hp)
          have := flat_at enc k F.len xs 0 0 hb hp
          rw [hu] at this
          simpa [Addr.add] using World.cell?_spot (cell _ _ this)
        subst hspot
        exact ⟨g, off, rfl, fun j u hu => by have := cell j u hu; rw [Go.WideShapes.add_plain] at this; exact this⟩
    · obtain ⟨i, hi⟩ := List.getElem?_of_mem hb
      exact (hx i b hi).2.1
    · have : elems.map (·.1) = xs.map (dat H) := by
        apply List.ext_getElem?
        intro i
        rw [List.getElem?_map, List.getElem?_map]
        by_cases hi : i < len
        · obtain ⟨b, hb⟩ := get_some xs i (by omega)
          rw [hb, (hx i b hb).1]; rfl
        · rw [List.getElem?_eq_none (by omega), List.getElem?_eq_none (by omega)]; rfl
      rw [this]
/-- A slice of plain elements, as an argument. -/
theorem open_rdF {v : Value} {d : DataW H} {ps : List MemPlace} {e k b0 : Nat} {α : Type} {enc : α → List Value} {dat : (H : Type) → α → DataW H} {good : α → Prop} (F : Flat P e k enc dat good) (hp : 0 < k) (ht : P.underlying t = some (.slice e)) (hok : Value.okWide P w .any b0 t v) (h : DataW.Trod en P w base spare held t v d ps) :
    ∃ xs : List α, ∃ rest : List (DataW H), Rd w enc v xs ∧ CapOk v ∧ (∀ a ∈ xs, good a) ∧ (d = .nil ∧ xs = [] ∨ d = .slice (xs.map (dat H)) rest) := by
  obtain ⟨a, len, cap, rfl⟩ := okWide_slice ht hok
  obtain ⟨fuel, hf⟩ := h
  obtain ⟨v', xs, rest, hv, h1, h2, h3, h4⟩ := open_flat F hp ht hf
  simp [Value.cells] at hv
  subst hv
  exact ⟨xs, rest, h1, h2, h3, h4⟩
/-- A struct of plain data, as an argument. -/
theorem open_one {v : Value} {d : DataW H} {ps : List MemPlace} {k b0 : Nat} {α : Type} {enc : α → List Value} {dat : (H : Type) → α → DataW H} {good : α → Prop} {fs : Array Field} (F : Flat P t k enc dat good) (hs : P.underlying t = some (.struct fs)) (hok : Value.okWide P w .any b0 t v) (h : DataW.Trod en P w base spare held t v d ps) :
    ∃ a : α, v = .agg (enc a).toArray ∧ d = dat H a ∧ ps = [] ∧ good a := by
  obtain ⟨cs, rfl, hsz⟩ := okWide_struct hs hok
  obtain ⟨fuel, hf⟩ := h
  obtain ⟨a, h1, h2, h3⟩ := F.dec hf
  simp only [Prod.mk.injEq] at h2
  refine ⟨a, ?_, h2.1, h2.2, h3⟩
  have : cs.toList = enc a := by simpa [Value.cells] using h1
  rw [← this]
/-- A line, as an argument. -/
theorem open_line {v : Value} {d : DataW H} {ps : List MemPlace} {b0 : Nat} {f0 f1 f2 f3 f4 : Field} {e : TypeId} (hs : P.underlying t = some (.struct #[f0, f1, f2, f3, f4])) (hone : Go.Deep.oneCellFields P #[f0, f1, f2, f3, f4] = true) (hC : P.cellsOf t = 5)
    (h0 : P.underlying f0.type = some (.int .i64)) (h1 : P.underlying f1.type = some (.int .u8)) (h2 : P.underlying f2.type = some .string) (h3 : P.underlying f3.type = some (.slice e)) (he : P.underlying e = some .string) (hce : P.cellsOf e = 1) (h4 : P.underlying f4.type = some .string)
    (hok : Value.okWide P w .any b0 t v) (h : DataW.Trod en P w base spare held t v d ps) :
    ∃ no k : Int, ∃ m t : List UInt8, ∃ vf : Value, ∃ f : List (List UInt8), ∃ df : DataW H, ∃ rest : List (DataW H), v = .agg #[.int .i64 no, .int .u8 k, S m, vf, S t] ∧ d = .agg [.lit (.int .i64 no), .lit (.int .u8 k), .lit (.string m), df, .lit (.string t)] ∧ Rd w encStr vf f ∧ CapOk vf ∧ (df = .nil ∧ f = [] ∨ df = .slice (f.map fun x => .lit (.string x)) rest) ∧ (Lit.int .i64 no).wf = true ∧ (Lit.int .u8 k).wf = true := by
  obtain ⟨cs, rfl, hsz⟩ := okWide_struct hs hok
  obtain ⟨fuel, hf⟩ := h
  obtain ⟨c0, c1, c2, c3, c4, y0, y1, y2, y3, y4, m, hcs, hx, g0, g1, g2, g3, g4⟩ := trod_cells5 hs hone hC hf
  obtain ⟨no, q0, rfl, w0⟩ := DataW.trod_int h0 g0
  obtain ⟨k, q1, rfl, w1⟩ := DataW.trod_int h1 g1
  obtain ⟨sm, q2, rfl, w2⟩ := DataW.trod_string h2 g2
  obtain ⟨vf, f, rest, q3, r1, r2, _, r3⟩ := open_flat (flat_str he hce) (by decide) h3 g3
  obtain ⟨st, q4, rfl, w4⟩ := DataW.trod_string h4 g4
  simp only [List.cons.injEq, and_true] at q0 q1 q2 q3 q4
  subst q0 q1 q2 q3 q4
  simp only [Prod.mk.injEq] at hx
  refine ⟨no, k, sm.data.toList, st.data.toList, c3, f, y3.1, rest, ?_, hx.1, r1, r2, r3, w0, w1⟩
  have : cs.toList = [.int .i64 no, .int .u8 k, .string sm, c3, .string st] := by simpa [Value.cells] using hcs
  have h2 : cs = #[.int .i64 no, .int .u8 k, .string sm, c3, .string st] := by rw [← this]
  rw [h2]; rfl
end
end Go.FK
