/- FKaj: slices made of zeros, of any plain kind; arguments of plain data: structs with fields of several cells. My own text. -/
import Derived.Test.YthjgnnfonofgkaaFKq
import Derived.Test.YthjgnnfonofgkaaFKu
set_option linter.unusedVariables false
namespace Go.FK
open Go Go.RowKit Go.ChangeShapes Go.WideShapes
theorem made_ones {α : Type} {enc : α → List Value} {a : α} {z : Value} (he : enc a = [z]) (m : Nat) : (madeCells #[z] m) = ((List.replicate m a).flatMap enc).toArray := by
  have h : (List.replicate m a).flatMap enc = List.replicate m z := by
    induction m with
    | zero => rfl
    | succ m ih => rw [List.replicate_succ, List.flatMap_cons, ih, he, List.replicate_succ]; rfl
  rw [h]
  apply Array.ext
  · rw [size_madeCells]; simp
  · intro j h1 h2
    simp only [madeCells, Array.getElem_map, Array.getElem_range]
    simp [Nat.mod_one]
section ops
variable {r : Option Nat} {P : Program} {n : Nat} {Q : Post} {s : Fm} {w : World} {ops : Array Oper} {rest : List Oper}
variable {d : Option Tmp} {ty : TypeId} {pos : String} {af : Array Edge}
/-- A row of `m` zeros is laid out. -/
theorem L_makeZ {α : Type} {enc : α → List Value} (a : α) (z : Value) {T E bytes m : Nat} {X Y : Operand} {kl kc : IntKind} (he : Elem P T E 1 bytes) (hz : (P.info? E).map (·.zero) = some (some z)) (hc : Value.cells z = #[z]) (ha : enc a = [z])
    (hx : s.ev n X = .int kl (m : Nat)) (hy : s.ev n Y = .int kc (m : Nat)) (hb : bytes * m ≤ 281474976710656) (hm : m ≤ 1073741824)
    (h : ∀ b w', New w w' b (.cells ((List.replicate m a).flatMap enc).toArray E (0, 0)) → L r P n ops Q rest (s.put d (.slice (some ⟨b, 0, none⟩) m m)) w') :
    L r P n ops Q (⟨d, .makeSlice T X Y, ty, pos, af, none⟩ :: rest) s w := by
  have hi := he.hi
  cases hq2 : P.info? E with
  | none => rw [hq2] at hi; cases hi
  | some i =>
    rw [hq2] at hi hz
    simp only [Option.map_some, Option.some.injEq, Prod.mk.injEq] at hi hz
    obtain ⟨-, h2, h3⟩ := hi
    refine L_new (fun b => .slice (some ⟨b, 0, none⟩) m m) _ ?_ rfl h
    have hb' : (i.bytes : Int) * (m : Int) ≤ 281474976710656 := by rw [h3, ← Int.natCast_mul]; omega
    have hr := run_make (P := P) w T E i _ he.ht hq2 hz kl kc (m : Int) (m : Int) (by omega) (Int.le_refl _) hb' (by omega)
    rw [Int.toNat_natCast, h2, Nat.mul_one] at hr
    rw [hc, made_ones ha] at hr
    simp only [execOp, hx, hy, Sem.run_bind, hr, Result.andThen_ok, Sem.run_pure]
end ops
theorem Row.madeZ {α : Type} {enc : α → List Value} {a : α} {w w' : World} {b B E m : Nat} (hk : ∀ x, (enc x).length = 1) (hN : New w w' b (.cells ((List.replicate m a).flatMap enc).toArray E (0, 0))) (hB : B ≤ b) (hm : m ≤ 1048576) :
    Row w' B E 1 enc (.slice (some ⟨b, 0, none⟩) m m) (List.replicate m a) := by
  have h := Row.made (E := E) (k := 1) (enc := enc) (List.replicate m a) hN hB rfl (by
    have : ∀ l : List α, (l.flatMap enc).length = l.length * 1 := fun l => by
      induction l with
      | nil => rfl
      | cons a l ih => rw [List.flatMap_cons, List.length_append, ih, List.length_cons, hk]; omega
    exact this _) (by simpa using hm)
  simpa using h
theorem elem_mid {w : World} {g off : Nat} {l : List Value} (A : List Value) {l2 : List Value} (B : List Value) (hc : ∀ (j : Nat) (u : Value), l[j]? = some u → w.cell? ⟨g, off + j, none⟩ = some u) (hl : l = A ++ (l2 ++ B)) :
    ∀ (j : Nat) (u : Value), l2[j]? = some u → w.cell? ⟨g, off + A.length + j, none⟩ = some u := fun j u hu => by
  rw [Nat.add_assoc]
  refine hc _ u ?_
  rw [hl, List.getElem?_append_right (by omega), show A.length + j - A.length = j by omega, List.getElem?_append_left (List.getElem?_eq_some_iff.1 hu).1]
  exact hu
section
variable {P : Program} {t : TypeId}
theorem flat_s1_1_1_1_1_2_1 {α0 α1 α2 α3 α4 α5 α6 : Type} {e0 : α0 → List Value} {d0 : (H : Type) → α0 → DataW H} {g0 : α0 → Prop} {e1 : α1 → List Value} {d1 : (H : Type) → α1 → DataW H} {g1 : α1 → Prop} {e2 : α2 → List Value} {d2 : (H : Type) → α2 → DataW H} {g2 : α2 → Prop} {e3 : α3 → List Value} {d3 : (H : Type) → α3 → DataW H} {g3 : α3 → Prop} {e4 : α4 → List Value} {d4 : (H : Type) → α4 → DataW H} {g4 : α4 → Prop} {e5 : α5 → List Value} {d5 : (H : Type) → α5 → DataW H} {g5 : α5 → Prop} {e6 : α6 → List Value} {d6 : (H : Type) → α6 → DataW H} {g6 : α6 → Prop} {f0 f1 f2 f3 f4 f5 f6 : Field} (hs : P.underlying t = some (.struct #[f0, f1, f2, f3, f4, f5, f6])) (hC : P.cellsOf t = 8) (o0 : f0.offset = 0) (o1 : f1.offset = 1) (o2 : f2.offset = 2) (o3 : f3.offset = 3) (o4 : f4.offset = 4) (o5 : f5.offset = 5) (o6 : f6.offset = 7) (F0 : Flat P f0.type 1 e0 d0 g0) (F1 : Flat P f1.type 1 e1 d1 g1) (F2 : Flat P f2.type 1 e2 d2 g2) (F3 : Flat P f3.type 1 e3 d3 g3) (F4 : Flat P f4.type 1 e4 d4 g4) (F5 : Flat P f5.type 2 e5 d5 g5) (F6 : Flat P f6.type 1 e6 d6 g6) :
    Flat P t 8 (fun a : α0 × α1 × α2 × α3 × α4 × α5 × α6 => e0 (a.1) ++ e1 (a.2.1) ++ e2 (a.2.2.1) ++ e3 (a.2.2.2.1) ++ e4 (a.2.2.2.2.1) ++ e5 (a.2.2.2.2.2.1) ++ e6 (a.2.2.2.2.2.2)) (fun H a => .agg [d0 H (a.1), d1 H (a.2.1), d2 H (a.2.2.1), d3 H (a.2.2.2.1), d4 H (a.2.2.2.2.1), d5 H (a.2.2.2.2.2.1), d6 H (a.2.2.2.2.2.2)]) (fun a => g0 (a.1) ∧ g1 (a.2.1) ∧ g2 (a.2.2.1) ∧ g3 (a.2.2.2.1) ∧ g4 (a.2.2.2.2.1) ∧ g5 (a.2.2.2.2.2.1) ∧ g6 (a.2.2.2.2.2.2)) := ⟨fun a => by simp only [List.length_append, F0.len, F1.len, F2.len, F3.len, F4.len, F5.len, F6.len], hC, fun {_ _ _ _ _ _ n cs x} h => by
  obtain ⟨xs, m, _, rfl, hl, hlen, hf⟩ := DataW.trod_struct hs h
  rw [hC] at hl
  match xs, hlen, cs, hl with
  | [y0, y1, y2, y3, y4, y5, y6], _, [c0, c1, c2, c3, c4, c5, c6, c7], _ =>
    have h0 := hf 0 f0 rfl
    rw [o0, F0.size] at h0
    replace h0 : DataW.trod _ P _ _ _ _ m f0.type [c0] = some y0 := h0
    have hz0 := F0.dec h0
    clear h0
    obtain ⟨a0, q0, p0, k0⟩ := hz0
    have h1 := hf 1 f1 rfl
    rw [o1, F1.size] at h1
    replace h1 : DataW.trod _ P _ _ _ _ m f1.type [c1] = some y1 := h1
    have hz1 := F1.dec h1
    clear h1
    obtain ⟨a1, q1, p1, k1⟩ := hz1
    have h2 := hf 2 f2 rfl
    rw [o2, F2.size] at h2
    replace h2 : DataW.trod _ P _ _ _ _ m f2.type [c2] = some y2 := h2
    have hz2 := F2.dec h2
    clear h2
    obtain ⟨a2, q2, p2, k2⟩ := hz2
    have h3 := hf 3 f3 rfl
    rw [o3, F3.size] at h3
    replace h3 : DataW.trod _ P _ _ _ _ m f3.type [c3] = some y3 := h3
    have hz3 := F3.dec h3
    clear h3
    obtain ⟨a3, q3, p3, k3⟩ := hz3
    have h4 := hf 4 f4 rfl
    rw [o4, F4.size] at h4
    replace h4 : DataW.trod _ P _ _ _ _ m f4.type [c4] = some y4 := h4
    have hz4 := F4.dec h4
    clear h4
    obtain ⟨a4, q4, p4, k4⟩ := hz4
    have h5 := hf 5 f5 rfl
    rw [o5, F5.size] at h5
    replace h5 : DataW.trod _ P _ _ _ _ m f5.type [c5, c6] = some y5 := h5
    have hz5 := F5.dec h5
    clear h5
    obtain ⟨a5, q5, p5, k5⟩ := hz5
    have h6 := hf 6 f6 rfl
    rw [o6, F6.size] at h6
    replace h6 : DataW.trod _ P _ _ _ _ m f6.type [c7] = some y6 := h6
    have hz6 := F6.dec h6
    clear h6
    obtain ⟨a6, q6, p6, k6⟩ := hz6
    subst p0 p1 p2 p3 p4 p5 p6
    refine ⟨(a0, a1, a2, a3, a4, a5, a6), ?_, rfl, k0, k1, k2, k3, k4, k5, k6⟩
    simp only
    rw [← q0, ← q1, ← q2, ← q3, ← q4, ← q5, ← q6]; rfl⟩
theorem flat_s2_1 {α0 α1 : Type} {e0 : α0 → List Value} {d0 : (H : Type) → α0 → DataW H} {g0 : α0 → Prop} {e1 : α1 → List Value} {d1 : (H : Type) → α1 → DataW H} {g1 : α1 → Prop} {f0 f1 : Field} (hs : P.underlying t = some (.struct #[f0, f1])) (hC : P.cellsOf t = 3) (o0 : f0.offset = 0) (o1 : f1.offset = 2) (F0 : Flat P f0.type 2 e0 d0 g0) (F1 : Flat P f1.type 1 e1 d1 g1) :
    Flat P t 3 (fun a : α0 × α1 => e0 (a.1) ++ e1 (a.2)) (fun H a => .agg [d0 H (a.1), d1 H (a.2)]) (fun a => g0 (a.1) ∧ g1 (a.2)) := ⟨fun a => by simp only [List.length_append, F0.len, F1.len], hC, fun {_ _ _ _ _ _ n cs x} h => by
  obtain ⟨xs, m, _, rfl, hl, hlen, hf⟩ := DataW.trod_struct hs h
  rw [hC] at hl
  match xs, hlen, cs, hl with
  | [y0, y1], _, [c0, c1, c2], _ =>
    have h0 := hf 0 f0 rfl
    rw [o0, F0.size] at h0
    replace h0 : DataW.trod _ P _ _ _ _ m f0.type [c0, c1] = some y0 := h0
    have hz0 := F0.dec h0
    clear h0
    obtain ⟨a0, q0, p0, k0⟩ := hz0
    have h1 := hf 1 f1 rfl
    rw [o1, F1.size] at h1
    replace h1 : DataW.trod _ P _ _ _ _ m f1.type [c2] = some y1 := h1
    have hz1 := F1.dec h1
    clear h1
    obtain ⟨a1, q1, p1, k1⟩ := hz1
    subst p0 p1
    refine ⟨(a0, a1), ?_, rfl, k0, k1⟩
    simp only
    rw [← q0, ← q1]; rfl⟩
theorem flat_s1_1_1_2 {α0 α1 α2 α3 : Type} {e0 : α0 → List Value} {d0 : (H : Type) → α0 → DataW H} {g0 : α0 → Prop} {e1 : α1 → List Value} {d1 : (H : Type) → α1 → DataW H} {g1 : α1 → Prop} {e2 : α2 → List Value} {d2 : (H : Type) → α2 → DataW H} {g2 : α2 → Prop} {e3 : α3 → List Value} {d3 : (H : Type) → α3 → DataW H} {g3 : α3 → Prop} {f0 f1 f2 f3 : Field} (hs : P.underlying t = some (.struct #[f0, f1, f2, f3])) (hC : P.cellsOf t = 5) (o0 : f0.offset = 0) (o1 : f1.offset = 1) (o2 : f2.offset = 2) (o3 : f3.offset = 3) (F0 : Flat P f0.type 1 e0 d0 g0) (F1 : Flat P f1.type 1 e1 d1 g1) (F2 : Flat P f2.type 1 e2 d2 g2) (F3 : Flat P f3.type 2 e3 d3 g3) :
    Flat P t 5 (fun a : α0 × α1 × α2 × α3 => e0 (a.1) ++ e1 (a.2.1) ++ e2 (a.2.2.1) ++ e3 (a.2.2.2)) (fun H a => .agg [d0 H (a.1), d1 H (a.2.1), d2 H (a.2.2.1), d3 H (a.2.2.2)]) (fun a => g0 (a.1) ∧ g1 (a.2.1) ∧ g2 (a.2.2.1) ∧ g3 (a.2.2.2)) := ⟨fun a => by simp only [List.length_append, F0.len, F1.len, F2.len, F3.len], hC, fun {_ _ _ _ _ _ n cs x} h => by
  obtain ⟨xs, m, _, rfl, hl, hlen, hf⟩ := DataW.trod_struct hs h
  rw [hC] at hl
  match xs, hlen, cs, hl with
  | [y0, y1, y2, y3], _, [c0, c1, c2, c3, c4], _ =>
    have h0 := hf 0 f0 rfl
    rw [o0, F0.size] at h0
    replace h0 : DataW.trod _ P _ _ _ _ m f0.type [c0] = some y0 := h0
    have hz0 := F0.dec h0
    clear h0
    obtain ⟨a0, q0, p0, k0⟩ := hz0
    have h1 := hf 1 f1 rfl
    rw [o1, F1.size] at h1
    replace h1 : DataW.trod _ P _ _ _ _ m f1.type [c1] = some y1 := h1
    have hz1 := F1.dec h1
    clear h1
    obtain ⟨a1, q1, p1, k1⟩ := hz1
    have h2 := hf 2 f2 rfl
    rw [o2, F2.size] at h2
    replace h2 : DataW.trod _ P _ _ _ _ m f2.type [c2] = some y2 := h2
    have hz2 := F2.dec h2
    clear h2
    obtain ⟨a2, q2, p2, k2⟩ := hz2
    have h3 := hf 3 f3 rfl
    rw [o3, F3.size] at h3
    replace h3 : DataW.trod _ P _ _ _ _ m f3.type [c3, c4] = some y3 := h3
    have hz3 := F3.dec h3
    clear h3
    obtain ⟨a3, q3, p3, k3⟩ := hz3
    subst p0 p1 p2 p3
    refine ⟨(a0, a1, a2, a3), ?_, rfl, k0, k1, k2, k3⟩
    simp only
    rw [← q0, ← q1, ← q2, ← q3]; rfl⟩
end
end Go.FK
