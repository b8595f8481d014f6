/- FKe: ranges over texts, conversions between texts, bytes and runes, over functional frames. My own text. -/
import Derived.Test.YthjgnnfonofgkaaFKd
import Derived.Laws.Cover4
import Derived.Laws.BytesString
import Derived.Laws.RangeAny
namespace Go.FK
open Go Go.RowKit

/-- The character of a text at a byte, and its width. -/
def dec (a : List UInt8) (p : Nat) : Nat × Nat := Utf8.decode ⟨a.toArray⟩ p

theorem dec_pos (a : List UInt8) (p : Nat) : 1 ≤ (dec a p).2 := by
  unfold dec
  simp only [Utf8.decode]
  repeat' split
  all_goals simp
theorem dec_le (a : List UInt8) (p : Nat) : (dec a p).1 ≤ 2147483647 := decode_le _ _
theorem dec_fits (a : List UInt8) (p : Nat) (h : p < a.length) : p + (dec a p).2 ≤ a.length := by
  unfold dec
  have hs : (⟨a.toArray⟩ : ByteArray).size = a.length := rfl
  simp only [Utf8.decode]
  repeat' split
  all_goals simp only [hs] at *
  all_goals (try omega)
  all_goals simp_all
  all_goals omega

section ops
variable {r : Option Nat} {P : Program} {n : Nat} {Q : Post} {s : Fm} {w : World} {ops : Array Oper} {rest : List Oper}
variable {d : Option Tmp} {ty : TypeId} {pos : String} {af : Array Edge}

theorem L_range {t : TypeId} {X : Operand} (a : List UInt8) (hu : P.underlying t = some .string) (hx : s.ev n X = S a)
    (h : ∀ b w', New w w' b (.stringIter ⟨a.toArray⟩ 0) → L r P n ops Q rest (s.put d (.pointer (some ⟨b, 0, none⟩))) w') : L r P n ops Q (⟨d, .range t X, ty, pos, af, none⟩ :: rest) s w := by
  refine L_val (.pointer (some ⟨w.heap.size, 0, none⟩)) (w.alloc (.stringIter ⟨a.toArray⟩ 0)) (by simp) ?_ (h _ _ ⟨rfl, rfl⟩)
  have := run_range_string (P := P) w t ⟨a.toArray⟩ hu
  simp only [execOp, hx, S, Sem.run_bind, this, Result.andThen_ok, Sem.run_pure, World.iter]
theorem L_next {X : Operand} (a : List UInt8) (k p : Nat) (hx : s.ev n X = .pointer (some ⟨k, 0, none⟩)) (hk : w.heap[k]? = some (.stringIter ⟨a.toArray⟩ p)) (hp : p < a.length)
    (h : ∀ (c : Int) w', c = ((dec a p).1 : Int) → Wrote w w' k (.stringIter ⟨a.toArray⟩ (p + (dec a p).2)) → L r P n ops Q rest (s.put d (.tuple #[.bool true, .int .i64 (p : Nat), .int .i32 c])) w') : L r P n ops Q (⟨d, .next X true, ty, pos, af, none⟩ :: rest) s w := by
  refine L_val _ (w.iterAt k ⟨a.toArray⟩ (p + (dec a p).2)) (by simp) ?_ (h _ _ rfl ⟨rfl, rfl, rfl, Lib.iterAt_size .., Lib.iterAt_heap _ _ _ _ _ hk, fun j hj => Lib.iterAt_other _ _ _ _ _ hj⟩)
  have := Lib.run_next_any_at (P := P) w k ⟨a.toArray⟩ p ty hk hp
  simp only [execOp, hx, Sem.run_bind, this, Result.andThen_ok, Sem.run_pure, dec]
theorem L_nextEnd {X : Operand} (a : List UInt8) (k p : Nat) (hx : s.ev n X = .pointer (some ⟨k, 0, none⟩)) (hk : w.heap[k]? = some (.stringIter ⟨a.toArray⟩ p)) (hp : a.length ≤ p)
    (h : L r P n ops Q rest (s.put d (.tuple #[.bool false])) w) : L r P n ops Q (⟨d, .next X true, ty, pos, af, none⟩ :: rest) s w := by
  refine L_val _ w (by simp) ?_ h
  have := Lib.run_next_end_at (P := P) w k ⟨a.toArray⟩ p ty hk (by rw [size_mk]; omega)
  simp only [execOp, hx, Sem.run_bind, this, Result.andThen_ok, Sem.run_pure]

/-- The bytes of characters. -/
def bytesI (xs : List Int) : List UInt8 := xs.map fun x => UInt8.ofNat x.toNat
theorem bytesI_push_aux : ∀ (xs : List Int) (r : ByteArray), xs.foldl (fun r n => r.push (UInt8.ofNat n.toNat)) r = ⟨(r.data.toList ++ bytesI xs).toArray⟩
  | [], r => by simp [bytesI]
  | x :: xs, r => by
    rw [List.foldl_cons, bytesI_push_aux xs]
    simp [bytesI, ByteArray.push]
theorem bytesI_push (xs : List Int) : Value.string (xs.foldl (fun r n => r.push (UInt8.ofNat n.toNat)) ByteArray.empty) = S (bytesI xs) := by
  rw [bytesI_push_aux]; rfl
def encL (xs : List Int) : List UInt8 := xs.flatMap fun x => (Utf8.encode x).data.toList
theorem runesBytes_eq (xs : List Int) : runesBytes xs = ⟨(encL xs).toArray⟩ := by
  have key : ∀ (xs : List Int) (b : ByteArray), xs.foldl (fun r n => r ++ Utf8.encode n) b = ⟨(b.data.toList ++ encL xs).toArray⟩ := by
    intro xs
    induction xs with
    | nil => intro b; apply ByteArray.ext; simp [encL]
    | cons x xs ih =>
      intro b
      rw [List.foldl_cons, ih]
      apply ByteArray.ext
      simp [encL]
  rw [runesBytes, key]
  simp
/-- 'string(l)' of runes. -/
theorem L_runesStr {a b E : Nat} {X : Operand} (v : Value) (xs : List Int) (ha : P.underlying a = some (.slice E)) (hE : P.underlying E = some (.int .i32)) (hb : P.underlying b = some .string) (hx : s.ev n X = v)
    (hrd : Rd w encI32 v xs)
    (h : L r P n ops Q rest (s.put d (S (encL xs))) w) : L r P n ops Q (⟨d, .convert a b X, ty, pos, af, none⟩ :: rest) s w := by
  refine L_val _ w (by simp) ?_ h
  have hrun : (convert a b v).run P w = .ok (S (encL xs)) w := by
    obtain ⟨q, c, rfl, hq⟩ := hrd
    rcases hq with h0 | ⟨g, off, rfl, hc⟩
    · obtain rfl : xs = [] := List.eq_nil_of_length_eq_zero h0
      rw [run_convert_runes_string w a b E _ _ _ ha hE hb]
      cases q with
      | none => rfl
      | some q => exact run_runesToString w q 0 c [] rfl
    · have := run_convert_runes (P := P) w a b E ⟨g, off, none⟩ xs.length c xs (Nat.le_refl _) ha hE hb (fun j hj => by
        rw [add_lit]
        have := hc j _ (encI32_at (by simp [hj] : xs[j]? = some xs[j]))
        rw [this]; simp [hj])
      rw [this, List.take_length, runesBytes_eq]
      rfl
  simp only [execOp, hx, Sem.run_bind, hrun, Result.andThen_ok, Sem.run_pure]
/-- 'string(l)' of bytes. -/
theorem L_bytesStr {a b E : Nat} {X : Operand} (v : Value) (xs : List Int) (ha : P.underlying a = some (.slice E)) (hE : P.underlying E = some (.int .u8)) (hb : P.underlying b = some .string) (hx : s.ev n X = v)
    (hrd : Rd w encU8 v xs)
    (h : L r P n ops Q rest (s.put d (S (bytesI xs))) w) : L r P n ops Q (⟨d, .convert a b X, ty, pos, af, none⟩ :: rest) s w := by
  refine L_val _ w (by simp) ?_ h
  have hrun : (convert a b v).run P w = .ok (S (bytesI xs)) w := by
    obtain ⟨q, c, rfl, hq⟩ := hrd
    rw [run_convert_bytes_string w a b E _ _ _ ha hE hb]
    rcases hq with h0 | ⟨g, off, rfl, hc⟩
    · obtain rfl : xs = [] := List.eq_nil_of_length_eq_zero h0
      cases q with
      | none => rfl
      | some q => exact run_bytesToString w q 0 c [] rfl
    · have hl : (loadCells ⟨g, off, none⟩ xs.length).run P w = .ok (xs.map (Value.int .u8)).toArray w := by
        have := run_loadCells_list (P := P) (w := w) ⟨g, off, none⟩ (xs.map (Value.int .u8)) (fun j v hj => by
          rw [List.getElem?_map] at hj
          cases hx : xs[j]? with
          | none => rw [hx] at hj; cases hj
          | some y =>
            rw [hx] at hj; cases hj
            rw [add_lit]
            exact hc j _ (encU8_at hx))
        simpa using this
      rw [run_bytesToString w ⟨g, off, none⟩ xs.length c xs hl, bytesI_push]
  simp only [execOp, hx, Sem.run_bind, hrun, Result.andThen_ok, Sem.run_pure]
end ops
end Go.FK
