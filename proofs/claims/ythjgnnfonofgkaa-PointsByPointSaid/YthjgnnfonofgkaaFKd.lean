/- FKd: laws over functional frames: a text's bytes and pieces, a slice's length and places, appends to rows of the call's own, ranges over texts. My own text. -/
import Derived.Test.YthjgnnfonofgkaaFKc
namespace Go.FK
open Go Go.RowKit

/-- What the model must know of a slice type: its element, the element's cells and bytes. -/
structure Elem (P : Program) (T E k bytes : Nat) : Prop where
  ht : P.underlying T = some (.slice E)
  hi : (P.info? E).map (fun i => (i.zero.map (fun z => z.cells.size), i.size, i.bytes)) = some (some k, k, bytes)
  hk : Nat.blt 0 k = true

/-- A row of the call's own that can grow: its elements as a list, each by its cells. -/
def Row {α : Type} (w : World) (B E k : Nat) (enc : α → List Value) (v : Value) (xs : List α) : Prop := w.ownsRow B E k v xs.length (xs.flatMap enc)
/-- A slice that can be read. -/
def Rd {α : Type} (w : World) (enc : α → List Value) (v : Value) (xs : List α) : Prop :=
  ∃ a c, v = .slice a xs.length c ∧ (xs.length = 0 ∨ ∃ g off, a = some ⟨g, off, none⟩ ∧ ∀ j u, (xs.flatMap enc)[j]? = some u → w.cell? ⟨g, off + j, none⟩ = some u)
theorem Row.nil {α : Type} (w : World) (B E k : Nat) (enc : α → List Value) : Row w B E k enc (.slice none 0 0) [] := World.ownsRow_nil _ _ _ _
theorem Row.below {α : Type} {w w' : World} {B E k : Nat} {enc : α → List Value} {v : Value} {xs : List α} (h : Row w B E k enc v xs) (hb : Below w.heap.size w w') : Row w' B E k enc v xs := row_below h hb
theorem Row.wrote {α : Type} {w w' : World} {B E k b : Nat} {o : Obj} {enc : α → List Value} {v : Value} {xs : List α} (h : Row w B E k enc v xs) (hw : Wrote w w' b o) (hne : v.ownBlock ≠ some b) : Row w' B E k enc v xs := row_wrote h hw hne
theorem Row.ne {α : Type} {w : World} {B E k b : Nat} {o : Obj} {enc : α → List Value} {v : Value} {xs : List α} (h : Row w B E k enc v xs) (hb : w.heap[b]? = some o) (ho : ∀ cur, o ≠ .cells cur E (0, 0)) : v.ownBlock ≠ some b := row_ne h hb ho
/-- A new block is no row's. -/
theorem Row.new_ne {α : Type} {w w' : World} {B E k b : Nat} {o : Obj} {enc : α → List Value} {v : Value} {xs : List α} (h : Row w B E k enc v xs) (hN : New w w' b o) : v.ownBlock ≠ some b := by
  rcases row_block h with rfl | ⟨g, cap, cur, rfl, hh⟩
  · simp [Value.ownBlock]
  · intro e
    have := obj_lt hh
    have h2 := hN.num
    obtain rfl : g = b := by simpa [Value.ownBlock] using e
    omega
theorem ownb_app {v v' : Value} {m b : Nat} (h : v'.ownBlock = v.ownBlock ∨ v'.ownBlock = some (m + 1)) (hne : v.ownBlock ≠ some b) (hb : b < m) : v'.ownBlock ≠ some b := by
  rcases h with h | h
  · rw [h]; exact hne
  · rw [h]; intro e; have := Option.some.inj e; omega
theorem ap_nil (v : Value) : v.ownBlock = none ∨ v.ownBlock ≠ (Value.slice none 0 0).ownBlock := by cases h : v.ownBlock <;> simp [Value.ownBlock]
/-- Two rows of one element type, over an append to the second. -/
theorem ap_app {α : Type} {w : World} {B E k : Nat} {enc : α → List Value} {v v1 v2 : Value} {xs : List α} (h : Row w B E k enc v xs) (how : v2.ownBlock = v1.ownBlock ∨ v2.ownBlock = some (w.heap.size + 1)) (hne : v.ownBlock = none ∨ v.ownBlock ≠ v1.ownBlock) : v.ownBlock = none ∨ v.ownBlock ≠ v2.ownBlock := by
  rcases how with e | e
  · rw [e]; exact hne
  · rcases row_block h with rfl | ⟨g, cap, cur, rfl, hh⟩
    · exact .inl rfl
    · right
      rw [e]
      intro e2
      have h1 : some g = some (w.heap.size + 1) := e2
      have h2 := Option.some.inj h1
      have := obj_lt hh
      omega
theorem Row.base {α : Type} {w : World} {B B' E k : Nat} {enc : α → List Value} {v : Value} {xs : List α} (h : Row w B E k enc v xs) (hB : B' ≤ B) : Row w B' E k enc v xs := by
  refine ⟨h.1, ?_⟩
  rcases h.2 with h2 | ⟨g, cap, cur, hv, hg, r⟩
  · exact .inl h2
  · exact .inr ⟨g, cap, cur, hv, Nat.le_trans hB hg, r⟩
theorem Row.rd {α : Type} {w : World} {B E k : Nat} {enc : α → List Value} {v : Value} {xs : List α} (h : Row w B E k enc v xs) : Rd w enc v xs := by
  rcases Nat.eq_zero_or_pos xs.length with h0 | h0
  · obtain ⟨a, c, hv⟩ := row_len h
    exact ⟨a, c, hv, .inl h0⟩
  · obtain ⟨g, ⟨c, hv⟩, _, hc⟩ := row_lies h h0
    exact ⟨_, c, hv, .inr ⟨g, 0, rfl, fun j u hu => by rw [Nat.zero_add]; exact hc j u hu⟩⟩
theorem Rd.below {α : Type} {w w' : World} {enc : α → List Value} {v : Value} {xs : List α} (h : Rd w enc v xs) (hb : Below w.heap.size w w') : Rd w' enc v xs := by
  obtain ⟨a, c, hv, h⟩ := h
  refine ⟨a, c, hv, ?_⟩
  rcases h with h | ⟨g, off, ha, hc⟩
  · exact .inl h
  · refine .inr ⟨g, off, ha, fun j u hu => ?_⟩
    have := hc j u hu
    exact (hb.cell (p := ⟨g, off + j, none⟩) (World.block_lt_of_cell? w _ this)).trans this
theorem Rd.len {α : Type} {w : World} {enc : α → List Value} {v : Value} {xs : List α} (h : Rd w enc v xs) : ∃ a c, v = .slice a xs.length c := by
  obtain ⟨a, c, hv, _⟩ := h; exact ⟨a, c, hv⟩
/-- An element's place and cells. -/
theorem Rd.at {α : Type} {w : World} {k : Nat} {enc : α → List Value} {v : Value} {xs : List α} (h : Rd w enc v xs) (hk : ∀ x, (enc x).length = k) {i : Nat} {x : α} (hx : xs[i]? = some x) :
    ∃ g off, Lies v g off xs.length ∧ ∀ j u, (enc x)[j]? = some u → w.cell? ⟨g, off + i * k + j, none⟩ = some u := by
  obtain ⟨a, c, hv, h⟩ := h
  obtain ⟨hlt, _⟩ := List.getElem?_eq_some_iff.1 hx
  rcases h with h | ⟨g, off, ha, hc⟩
  · omega
  · refine ⟨g, off, ⟨c, by rw [hv, ha]⟩, fun j u hu => ?_⟩
    have hj : j < k := by rw [← hk x]; exact (List.getElem?_eq_some_iff.1 hu).1
    rw [Nat.add_assoc]
    exact hc _ u ((flat_at enc k hk xs i j hx hj).trans hu)
theorem Row.cast {α : Type} {w : World} {B E k : Nat} {enc : α → List Value} {v : Value} {xs ys : List α} (h : Row w B E k enc v xs) (e : xs = ys) : Row w B E k enc v ys := e ▸ h
theorem Row.one {α : Type} {w : World} {B E k : Nat} {enc : α → List Value} {v : Value} {xs : List α} (h : Row w B E k enc v xs) : v.oneCell' = true := by
  obtain ⟨a, c, rfl⟩ := row_len h; rfl
theorem Rd.nil {α : Type} (w : World) (enc : α → List Value) : Rd w enc (.slice none 0 0) [] := ⟨none, 0, rfl, .inl rfl⟩
theorem obj_grown {w w' : World} {k : Nat} {o : Obj} {row : Option Nat} (h : w.heap[k]? = some o) (hg : w.grownBy w' row) (hne : row ≠ some k) : w'.heap[k]? = some o := (hg.block k (obj_lt h) (fun e => hne e.symm)).trans h
theorem Row.grown {α : Type} {w w' : World} {B E k : Nat} {enc : α → List Value} {v : Value} {xs : List α} {row : Option Nat} (h : Row w B E k enc v xs) (hg : w.grownBy w' row) (hne : v.ownBlock = none ∨ v.ownBlock ≠ row) : Row w' B E k enc v xs := World.ownsRow.kept h hg hne
/-- Rows of two element types lie apart. -/
theorem Row.apart {α β : Type} {w : World} {B E k B' E' k' : Nat} {enc : α → List Value} {enc' : β → List Value} {v v' : Value} {xs : List α} {ys : List β} (h : Row w B E k enc v xs) (h' : Row w B' E' k' enc' v' ys) (hE : Nat.beq E E' = false) : v.ownBlock = none ∨ v.ownBlock ≠ v'.ownBlock := by
  rcases row_block h with rfl | ⟨g, cap, cur, rfl, hh⟩
  · exact .inl rfl
  · refine .inr fun e => ?_
    have : (Value.slice (some ⟨g, 0, none⟩) xs.length cap).ownBlock = some g := rfl
    rw [this] at e
    refine row_ne h' hh (fun cur' hc => ?_) e.symm
    injection hc with _ h2
    subst h2; simp at hE
def encI32 (x : Int) : List Value := [.int .i32 x]
def encInt (x : Int) : List Value := [.int .i64 x]
def encNat (x : Nat) : List Value := [.int .i64 (x : Int)]
def encU8 (x : Int) : List Value := [.int .u8 x]
def encByte (x : UInt8) : List Value := [.int .u8 (x.toNat : Nat)]
def encStr (x : List UInt8) : List Value := [S x]
theorem encU8_at {xs : List Int} {i : Nat} {x : Int} (h : xs[i]? = some x) : (xs.flatMap encU8)[i]? = some (.int .u8 x) := by
  have := flat_at encU8 1 (fun _ => rfl) xs i 0 h (by omega)
  simpa [encU8] using this
theorem encI32_at {xs : List Int} {i : Nat} {x : Int} (h : xs[i]? = some x) : (xs.flatMap encI32)[i]? = some (.int .i32 x) := by
  have := flat_at encI32 1 (fun _ => rfl) xs i 0 h (by omega)
  simpa [encI32] using this

/-- The kit's 'run_append_own', with one word more: the new row lies where the old one lay, or in a new block. (Its text turned.) -/
theorem run_append_own2 {P : Program} (w : World) (base : Nat) (t ty e : TypeId) (i : TypeInfo) (z : Value) (size bytes : Nat) (ht : P.underlying t = some (.slice e)) (hi : P.info? e = some i) (hz : i.zero = some z)
    (hsize : i.size = size) (hby : i.bytes = bytes) (hzs : z.cells.size = size) (hsz : 0 < size)
    (v : Value) (n : Nat) (xs : List Value) (hown : w.ownsRow base e size v n xs)
    (a : Addr) (m c : Nat) (news : List Value) (hl : news.length = m * size) (hnews : ∀ j u, news[j]? = some u → w.cell? (a.add j) = some u) (h1 : ∀ u ∈ news, u.oneCell' = true)
    (h63 : n + m ≤ maxLen) (hbytes : (n + m) * bytes ≤ 140737488355328) (hbase : base ≤ w.heap.size) :
    ∃ v' w', (Builtin.append_ #[t, t] ty #[v, .slice (some a) m c]).run P w = .ok v' w' ∧ w'.ownsRow base e size v' (n + m) (xs ++ news) ∧ w.grownBy w' v.ownBlock ∧
      (v' = .slice none 0 0 ↔ v = .slice none 0 0 ∧ m = 0) ∧ (v'.ownBlock = v.ownBlock ∨ v'.ownBlock = some w.heap.size) := by
  subst hsize
  subst hby
  have hsmall : n + m ≤ 9223372036854775807 := by simp only [maxLen] at h63; omega
  have hlen : (xs ++ news).length = (n + m) * i.size := by rw [List.length_append, hown.1, hl, Nat.add_mul]
  have grown : ∀ (old : Nat), old < n + m → ∀ (row : Option Nat),
      (w.drew.alloc (.cells (xs.toArray ++ news.toArray ++ Builtin.zeroCells z.cells (grownCap w (n + m) old e - (n + m))) e)).ownsRow base e i.size
        (.slice (some ⟨w.heap.size, 0, none⟩) (n + m) (grownCap w (n + m) old e)) (n + m) (xs ++ news) ∧
      w.grownBy (w.drew.alloc (.cells (xs.toArray ++ news.toArray ++ Builtin.zeroCells z.cells (grownCap w (n + m) old e - (n + m))) e)) row := by
    intro old ho row
    have hge := grownCap_ge w (n + m) old e
    have hcm : grownCap w (n + m) old e ≤ maxLen := grownCap_le_maxLen w (n + m) old e h63
    refine ⟨⟨hlen, .inr ⟨w.heap.size, _, _, rfl, hbase, heap_alloc_new w.drew _, hge, hcm, ?_, ?_⟩⟩, ⟨rfl, rfl, rfl, by simp, fun k hk _ => Below.heap_alloc w.drew _ k hk⟩⟩
    · simp only [Array.size_append, List.size_toArray, size_zeroCells, hzs, hown.1, hl, ← Nat.add_mul]
      congr 1
      omega
    · simp only [Array.toList_append, List.append_assoc]
      rw [← List.append_assoc, ← hlen]
      exact List.take_left
  rcases hown.2 with ⟨rfl, rfl⟩ | ⟨g, cap, cur, rfl, hbg, hg, hnc, hcm, hcs, htake⟩
  · have hx : xs = [] := List.eq_nil_of_length_eq_zero (by simpa using hown.1)
    subst hx
    by_cases hm : m = 0
    · subst hm
      have hn : news = [] := List.eq_nil_of_length_eq_zero (by simpa using hl)
      subst hn
      refine ⟨.slice none 0 0, w, ?_, World.ownsRow_nil w base e i.size, ⟨rfl, rfl, rfl, Nat.le_refl _, fun _ _ _ => rfl⟩, by simp, .inl rfl⟩
      simp [Builtin.append_, run_underlying ht, sizeOf, typeInfo, hi, Builtin.lenOf, Builtin.firstCells, loadCells, loadCellsFrom]
    · have hr := run_append_nil (P := P) w t ty e i z ht hi hz a m c news hl hnews (by omega) (by omega) (by have hb := hbytes; simp only [Nat.zero_add] at hb; omega)
      have hgr := grown 0 (by omega) (Value.ownBlock (.slice none 0 0))
      simp only [Nat.zero_add, List.nil_append, Array.empty_append] at hgr ⊢
      exact ⟨_, _, hr, hgr.1, hgr.2, by simp [hm], .inr rfl⟩
  · by_cases hroom : n + m ≤ cap
    · have hfit : n * i.size + news.length ≤ cur.size := by rw [hl, hcs, ← Nat.add_mul]; exact Nat.mul_le_mul_right _ hroom
      have hr := run_append_room (P := P) w t ty e i ht hi g n cap cur hg a m c news hl hnews h1 hroom hfit
      refine ⟨_, _, hr, ⟨hlen, .inr ⟨g, cap, _, rfl, hbg, setRow_heap w g cur _ e _ hg, hroom, hcm, ?_, ?_⟩⟩, ⟨rfl, rfl, rfl, by simp, fun k _ hk => setRow_other w g k _ (fun e => hk (by simp [Value.ownBlock, e]))⟩, by simp, .inl rfl⟩
      · simp only [List.size_toArray, List.length_append, List.length_take, List.length_drop, Array.length_toList]
        omega
      · rw [htake, ← hlen]
        exact List.take_left
    · have holds : ∀ j u, xs[j]? = some u → w.cell? ((⟨g, 0, none⟩ : Addr).add j) = some u := hown.cells (g := g) rfl
      have hr := run_append_grow (P := P) w t ty e i z ht hi hz ⟨g, 0, none⟩ n cap xs hown.1 holds a m c news hl hnews (by omega) (by omega) (growslice_fits (by omega) hbytes)
      have hgr := grown cap (by omega) (Value.ownBlock (.slice (some ⟨g, 0, none⟩) n cap))
      exact ⟨_, _, hr, hgr.1, hgr.2, by simp, .inr rfl⟩

section ops
variable {r : Option Nat} {P : Program} {n : Nat} {Q : Post} {s : Fm} {w : World} {ops : Array Oper} {rest : List Oper}
variable {d : Option Tmp} {ty : TypeId} {pos : String} {af : Array Edge}

/-! ### a text's bytes and pieces -/
theorem L_sindex {t : TypeId} {X I : Operand} {k : IntKind} (a : List UInt8) (i : Nat) (c : UInt8) (hu : P.underlying t = some .string) (hc : a[i]? = some c) (hx : s.ev n X = S a) (hi : s.ev n I = .int k i)
    (h : L r P n ops Q rest (s.put d (.int .u8 (c.toNat : Nat))) w) : L r P n ops Q (⟨d, .index t X I, ty, pos, af, none⟩ :: rest) s w := by
  refine L_val _ w (by simp) ?_ h
  have e : (⟨a.toArray⟩ : ByteArray)[i]? = some c := by
    obtain ⟨hlt, hg⟩ := List.getElem?_eq_some_iff.1 hc
    rw [getElem?_pos (⟨a.toArray⟩ : ByteArray) i (by rw [size_mk]; exact hlt)]
    congr 1
  simp only [execOp, hx, hi, S, Instr.index, asIntOf, Sem.run_bind, Sem.run_pure, Result.andThen_ok, run_underlying hu, Int.toNat_natCast, Int.natCast_nonneg, if_true, e]
theorem sliceB {len cap : Nat} {lo hi : Option Value} (l hh : Nat) (hl : (match lo with | none => l = 0 | some v => ∃ k, v = .int k l) ) (hhi : (match hi with | none => hh = len | some v => ∃ k, v = .int k hh)) (h1 : l ≤ hh) (h2 : hh ≤ cap) (b : Bool) :
    (Instr.sliceBounds b len cap lo hi none).run P w = .ok (l, hh, cap) w := by
  have sb : ∀ (k : IntKind) (i y : Nat) (code : BoundsCode), i ≤ y → (Instr.sliceBound (.int k i) y code).run P w = .ok i w := by
    intro k i y code hi
    simp only [Instr.sliceBound, asIntOf, Sem.run_bind, Sem.run_pure, Result.andThen_ok]
    rw [if_pos ⟨by omega, by omega⟩]
    simp [Sem.run_pure]
  cases lo <;> cases hi
  · simp only at hl hhi; subst hl; subst hhi
    simp [Instr.sliceBounds, Sem.run_pure]
  · simp only at hl hhi; subst hl; obtain ⟨k, rfl⟩ := hhi
    simp only [Instr.sliceBounds, Sem.run_bind, Sem.run_pure, Result.andThen_ok, sb _ _ _ _ h2]
  · simp only at hl hhi; obtain ⟨k, rfl⟩ := hl; subst hhi
    simp only [Instr.sliceBounds, Sem.run_bind, Sem.run_pure, Result.andThen_ok, sb _ _ _ _ h1, Option.isSome_none]
  · simp only at hl hhi; obtain ⟨k, rfl⟩ := hl; obtain ⟨k', rfl⟩ := hhi
    simp only [Instr.sliceBounds, Sem.run_bind, Sem.run_pure, Result.andThen_ok, sb _ _ _ _ h1, sb _ _ _ _ h2, Option.isSome_none]
theorem toNat_val {v : Value} (z : Int) (k : IntKind) (h : v = .int k z) (hz : 0 ≤ z) : ∃ k, v = .int k ((z.toNat : Nat) : Int) := ⟨k, by rw [h, Int.toNat_of_nonneg hz]⟩
/-- A piece of a text. -/
theorem L_sslice {t : TypeId} {X : Operand} {lo hi : Option Operand} (a : List UInt8) (l hh : Nat) (hu : P.underlying t = some .string) (hx : s.ev n X = S a)
    (hl : (match lo.map (s.ev n) with | none => l = 0 | some v => ∃ k, v = .int k l)) (hhi : (match hi.map (s.ev n) with | none => hh = a.length | some v => ∃ k, v = .int k hh)) (h1 : l ≤ hh) (h2 : hh ≤ a.length)
    (h : L r P n ops Q rest (s.put d (S ((a.take hh).drop l))) w) : L r P n ops Q (⟨d, .slice t X lo hi none, ty, pos, af, none⟩ :: rest) s w := by
  refine L_val _ w (by simp) ?_ h
  have e : (⟨a.toArray⟩ : ByteArray).extract l hh = ⟨((a.take hh).drop l).toArray⟩ := by
    rw [Lib.extract_eq]
    congr 1
    congr 1
    rw [List.drop_take]
  have hb := sliceB (P := P) (w := w) (len := a.length) (cap := a.length) l hh hl hhi h1 h2 false
  simp only [execOp, hx, S, Instr.sliceAt, Instr.slice, Sem.run_bind, Sem.run_pure, Result.andThen_ok, run_underlying hu, Option.map_none, Option.isSome_none, Bool.false_eq_true, if_false, size_mk, hb, e]

theorem L_ssfrom {t : TypeId} {X O : Operand} (a : List UInt8) (l : Nat) (hu : P.underlying t = some .string) (hx : s.ev n X = S a) (hl : ∃ k, s.ev n O = .int k l) (h1 : l ≤ a.length)
    (h : L r P n ops Q rest (s.put d (S (a.drop l))) w) : L r P n ops Q (⟨d, .slice t X (some O) none none, ty, pos, af, none⟩ :: rest) s w :=
  L_sslice a l a.length hu hx hl rfl h1 (Nat.le_refl _) (by rw [List.take_length]; exact h)
theorem L_ssto {t : TypeId} {X O : Operand} (a : List UInt8) (hh : Nat) (hu : P.underlying t = some .string) (hx : s.ev n X = S a) (hl : ∃ k, s.ev n O = .int k hh) (h1 : hh ≤ a.length)
    (h : L r P n ops Q rest (s.put d (S (a.take hh))) w) : L r P n ops Q (⟨d, .slice t X none (some O) none, ty, pos, af, none⟩ :: rest) s w :=
  L_sslice a 0 hh hu hx rfl hl (Nat.zero_le _) h1 (by rw [List.drop_zero]; exact h)
/-! ### slices -/
theorem L_len {ats : Array TypeId} {X : Operand} (t E m : Nat) (v : Value) (hat : ats[0]? = some t) (hu : P.underlying t = some (.slice E)) (hv : ∃ a c, v = .slice a m c) (hx : s.ev n X = v)
    (h : L r P n ops Q rest (s.put d (.int .i64 (m : Nat))) w) : L r P n ops Q (⟨d, .call ⟨.builtin .len, #[X], ats⟩, ty, pos, af, none⟩ :: rest) s w := by
  obtain ⟨a, c, rfl⟩ := hv
  refine L_val _ w (by simp) ?_ h
  simp [execOp, resolve, invoke, builtin, Builtin.len_, hat, hx, run_underlying hu, goInt, Sem.run_pure, Sem.run_bind]
theorem run_size {T E k bytes : Nat} (he : Elem P T E k bytes) : (sizeOf E).run P w = .ok k w := by
  have h := he.hi
  cases hq : P.info? E with
  | none => rw [hq] at h; cases h
  | some i =>
    rw [hq] at h
    simp only [Option.map_some, Option.some.injEq, Prod.mk.injEq] at h
    simp [sizeOf, typeInfo, hq, program, Sem.run_bind, Sem.run_pure, Sem.run, h.2.1]
theorem L_ixaddr {X I : Operand} {k : IntKind} {T E ke bytes : Nat} (v : Value) (i m g off : Nat) (he : Elem P T E ke bytes) (hl : Lies v g off m) (him : i < m) (hx : s.ev n X = v) (hi : s.ev n I = .int k i)
    (h : L r P n ops Q rest (s.put d (.pointer (some ⟨g, off + i * ke, none⟩))) w) : L r P n ops Q (⟨d, .indexAddr T X I, ty, pos, af, none⟩ :: rest) s w := by
  obtain ⟨c, rfl⟩ := hl
  refine L_val _ w (by simp) ?_ h
  have hb : (0 : Int) ≤ (i : Int) ∧ (i : Int) < (m : Int) := ⟨by omega, by omega⟩
  simp only [execOp, hx, hi, Instr.indexAt, asIntOf, Sem.run_bind, Sem.run_pure, Result.andThen_ok, run_underlying he.ht, hb, and_self, if_true, run_size he, Int.toNat_natCast, add_lit]
theorem L_ixaddrZ {X I : Operand} {k : IntKind} {T E ke bytes : Nat} (v : Value) (z : Int) (i m g off : Nat) (hz : z = (i : Int)) (he : Elem P T E ke bytes) (hl : Lies v g off m) (him : i < m) (hx : s.ev n X = v) (hi : s.ev n I = .int k z)
    (h : L r P n ops Q rest (s.put d (.pointer (some ⟨g, off + i * ke, none⟩))) w) : L r P n ops Q (⟨d, .indexAddr T X I, ty, pos, af, none⟩ :: rest) s w := by
  subst hz; exact L_ixaddr (k := k) v i m g off he hl him hx hi h
theorem L_sindexZ {t : TypeId} {X I : Operand} {k : IntKind} (a : List UInt8) (z : Int) (i : Nat) (c : UInt8) (hz : z = (i : Int)) (hu : P.underlying t = some .string) (hc : a[i]? = some c) (hx : s.ev n X = S a) (hi : s.ev n I = .int k z)
    (h : L r P n ops Q rest (s.put d (.int .u8 (c.toNat : Nat))) w) : L r P n ops Q (⟨d, .index t X I, ty, pos, af, none⟩ :: rest) s w := by
  subst hz; exact L_sindex (k := k) a i c hu hc hx hi h
/-- One element is laid and appended. -/
theorem L_app {α : Type} {d1 d2 : Nat} {ty1 ty2 : TypeId} {pos1 pos2 : String} {af1 af2 : Array Edge} {A X : Operand} {T E k bytes : Nat} {enc : α → List Value} (he : Elem P T E k bytes) (B : Nat) (v : Value) (xs : List α) (x : α) (hB : B ≤ w.heap.size)
    (hrow : Row w B E k enc v xs) (hm : (xs.length + 1) * bytes ≤ 140737488355328)
    (hbs : (execOp (s.ev n) ⟨some d1, .buildSlice T 1 #[(0, X)], ty1, pos1, af1, none⟩).run P w = .ok (.value (.slice (some ⟨w.heap.size, 0, none⟩) 1 1)) (w.alloc (.cells (enc x).toArray E)))
    (hcs : (enc x).length = k) (h1 : (enc x).all (·.oneCell') = true) (hA : s.ev n A = v) (hne : (match A with | .tmp t => !(Nat.beq t d1) | _ => true) = true) (hd1 : Nat.blt d1 n = true) (hby : Nat.blt 0 bytes = true)
    (h : ∀ v' w', Row w' B E k enc v' (xs ++ [x]) → w.grownBy w' v.ownBlock → (v'.ownBlock = v.ownBlock ∨ v'.ownBlock = some (w.heap.size + 1)) →
      L r P n ops Q rest ((s.put (some d1) (.slice (some ⟨w.heap.size, 0, none⟩) 1 1)).put (some d2) v') w') :
    L r P n ops Q (⟨some d1, .buildSlice T 1 #[(0, X)], ty1, pos1, af1, none⟩ :: ⟨some d2, .call ⟨.builtin .append, #[A, .tmp d1], #[T, T]⟩, ty2, pos2, af2, none⟩ :: rest) s w := by
  generalize hcse : enc x = cs at hbs hcs h1
  have hm2 : xs.length + 1 ≤ maxLen := by
    have : 0 < bytes := by simpa using hby
    have : (xs.length + 1) * 1 ≤ (xs.length + 1) * bytes := Nat.mul_le_mul_left _ this
    unfold maxLen; omega
  refine L_val _ _ (by simp) hbs ?_
  obtain ⟨i, hq, hz, hk, hby, z, hzz, hzs⟩ : ∃ i, P.info? E = some i ∧ i.zero.map (fun z => z.cells.size) = some k ∧ i.size = k ∧ i.bytes = bytes ∧ ∃ z, i.zero = some z ∧ z.cells.size = k := by
    have h := he.hi
    cases hq : P.info? E with
    | none => rw [hq] at h; cases h
    | some i =>
      rw [hq] at h
      simp only [Option.map_some, Option.some.injEq, Prod.mk.injEq] at h
      obtain ⟨h1, h2, h3⟩ := h
      cases hz : i.zero with
      | none => rw [hz] at h1; cases h1
      | some z => rw [hz] at h1; exact ⟨i, rfl, by rw [hz]; exact h1, h2, h3, z, hz, by simpa using h1⟩
  have hkp : 0 < k := by have := he.hk; simpa using this
  have hnews : ∀ j u, cs[j]? = some u → (w.alloc (.cells cs.toArray E)).cell? ((⟨w.heap.size, 0, none⟩ : Addr).add j) = some u := by
    intro j u hu
    rw [add_lit, Nat.zero_add]
    exact cell_obj (heap_alloc_new w _) (by simpa using hu)
  obtain ⟨v', w', hrun, hrow', hgrow, _, hwhere⟩ := run_append_own2 (P := P) (w := w.alloc (.cells cs.toArray E)) B T ty2 E i z k bytes he.ht hq hzz hk hby hzs hkp v xs.length (xs.flatMap enc) (World.ownsRow.alloc hrow _) ⟨w.heap.size, 0, none⟩ 1 1 cs (by simp [hcs]) hnews (by simpa using h1) hm2 hm (by simp; omega)
  have hown : v'.ownBlock = v.ownBlock ∨ v'.ownBlock = some (w.heap.size + 1) := by
    rcases hwhere with h | h
    · exact .inl h
    · exact .inr (by rw [h]; simp)
  have hrow2 : Row w' B E k enc v' (xs ++ [x]) := by
    unfold Row
    rw [List.length_append, List.flatMap_append, List.flatMap_cons, List.flatMap_nil, List.append_nil, hcse]
    exact hrow'
  have hgrow2 : w.grownBy w' v.ownBlock :=
    ⟨hgrow.os, hgrow.tape, hgrow.output, Nat.le_trans (by simp) hgrow.size, fun k hk hne => (hgrow.block k (by simp; omega) hne).trans (Below.heap_alloc w _ k hk)⟩
  have hev : (s.put (some d1) (.slice (some ⟨w.heap.size, 0, none⟩) 1 1)).ev n A = v := by
    cases A with
    | tmp t =>
      have ht : Nat.beq t d1 = false := by simpa using hne
      rw [← hA]
      simp only [Fm.ev, Fm.put, ht, cond_false]
    | _ => exact hA
  have hev2 : (s.put (some d1) (.slice (some ⟨w.heap.size, 0, none⟩) 1 1)).ev n (.tmp d1) = .slice (some ⟨w.heap.size, 0, none⟩) 1 1 := by
    simp [Fm.ev, Fm.put, hd1]
  refine L_val v' w' (by simp) ?_ (h v' w' hrow2 hgrow2 hown)
  simp only [execOp, resolve, invoke, builtin, Sem.run_bind, Sem.run_pure, Result.andThen_ok, List.map_toArray, List.map_cons, List.map_nil, hev, hev2, hrun]
end ops
end Go.FK
