/- FKs: pieces of a row behind a place: over functional frames. My own text. -/
import Derived.Test.YthjgnnfonofgkaaFKr
namespace Go.FK
open Go Go.RowKit
/-- What a slice from a place on is. -/
def TailOf (k n lo : Nat) (v v' : Value) : Prop := (n = 0 ∧ v = .slice none 0 0 ∧ v' = .slice none 0 0) ∨ ∃ g cap, v = .slice (some ⟨g, 0, none⟩) n cap ∧ v' = .slice (if cap = lo then some ⟨g, 0, none⟩ else some ⟨g, lo * k, none⟩) (n - lo) (cap - lo)
def SameCap (v v' : Value) : Prop := (v = .slice none 0 0 ∧ v' = .slice none 0 0) ∨ ∃ g n n' cap, v = .slice (some ⟨g, 0, none⟩) n cap ∧ v' = .slice (some ⟨g, 0, none⟩) n' cap
/-- What a slice of a row is, whatever the world. -/
def SliceOk (v : Value) (n : Nat) : Prop := (n = 0 ∧ v = .slice none 0 0) ∨ ∃ g cap, v = .slice (some ⟨g, 0, none⟩) n cap ∧ n ≤ cap
theorem Row.shape {α : Type} {w : World} {B E k : Nat} {enc : α → List Value} {v : Value} {xs : List α} (h : Row w B E k enc v xs) : SliceOk v xs.length := by
  rcases h.2 with ⟨h1, h2⟩ | ⟨g, cap, cur, hv, hg, hh, hnc, _⟩
  · exact .inl ⟨h2, h1⟩
  · exact .inr ⟨g, cap, hv, hnc⟩
theorem SliceOk.len {v : Value} {n : Nat} (h : SliceOk v n) : ∃ a c, v = .slice a n c := by
  rcases h with ⟨rfl, rfl⟩ | ⟨g, cap, rfl, _⟩
  · exact ⟨_, _, rfl⟩
  · exact ⟨_, _, rfl⟩
section ops
variable {r : Option Nat} {P : Program} {n : Nat} {Q : Post} {s : Fm} {w : World} {ops : Array Oper} {rest : List Oper}
variable {d : Option Tmp} {ty : TypeId} {pos : String} {af : Array Edge}
theorem L_slfrom {X : Operand} {lo : Operand} {T E k bytes : Nat} (he : Elem P T E k bytes) (v : Value) (N m : Nat) (hsh : SliceOk v N) (hm : m ≤ N)
    (hX : s.ev n X = v) (hlo : ∃ kk, s.ev n lo = .int kk m)
    (h : ∀ v', TailOf k N m v v' → L r P n ops Q rest (s.put d v') w) : L r P n ops Q (⟨d, .slice T X (some lo) none none, ty, pos, af, none⟩ :: rest) s w := by
  obtain ⟨kk, hlo⟩ := hlo
  rcases hsh with ⟨h3, rfl⟩ | ⟨g, cap, rfl, hnc⟩
  · have hm0 : m = 0 := by omega
    subst hm0
    refine L_val (.slice none 0 0) w (by simp) ?_ (h _ (.inl ⟨h3, rfl, rfl⟩))
    have hb := sliceB (P := P) (w := w) (len := 0) (cap := 0) (lo := some (.int kk (0 : Nat))) (hi := none) 0 0 ⟨kk, rfl⟩ rfl (Nat.le_refl _) (Nat.le_refl _) true
    simp only [execOp, hX, hlo, Instr.sliceAt, Instr.slice, Sem.run_bind, Sem.run_pure, Result.andThen_ok, run_underlying he.ht, Option.map_none, Option.map_some, hb, run_size he]
    rfl
  · have hb := sliceB (P := P) (w := w) (len := N) (cap := cap) (lo := some (.int kk (m : Nat))) (hi := none) m N ⟨kk, rfl⟩ rfl hm hnc true
    refine L_val _ w (by simp) ?_ (h _ (.inr ⟨g, cap, rfl, rfl⟩))
    simp only [execOp, hX, hlo, Instr.sliceAt, Instr.slice, Sem.run_bind, Sem.run_pure, Result.andThen_ok, run_underlying he.ht, Option.map_none, Option.map_some, hb, run_size he]
    have e : (if cap = m then some (⟨g, 0, none⟩ : Addr) else some ((⟨g, 0, none⟩ : Addr).add (m * k))) = if cap = m then some ⟨g, 0, none⟩ else some ⟨g, m * k, none⟩ := by
      split
      · rfl
      · rw [add_lit, Nat.zero_add]
    rw [e]
theorem L_slmid {X : Operand} {lo hi : Operand} {T E k bytes : Nat} (he : Elem P T E k bytes) (v : Value) (N l m : Nat) (hsh : SliceOk v N) (hl : l ≤ m) (hm : m ≤ N)
    (hX : s.ev n X = v) (hlo : ∃ kk, s.ev n lo = .int kk l) (hhi : ∃ kk, s.ev n hi = .int kk m)
    (h : ∀ v', L r P n ops Q rest (s.put d v') w) : L r P n ops Q (⟨d, .slice T X (some lo) (some hi) none, ty, pos, af, none⟩ :: rest) s w := by
  obtain ⟨kk, hlo⟩ := hlo
  obtain ⟨kk2, hhi⟩ := hhi
  obtain ⟨a, c, hv⟩ : ∃ a c, v = .slice a N c ∧ N ≤ c := by
    rcases hsh with ⟨h3, rfl⟩ | ⟨g, cap, rfl, hnc⟩
    · exact ⟨none, 0, by rw [h3], by omega⟩
    · exact ⟨_, _, rfl, hnc⟩
  obtain ⟨rfl, hc⟩ := hv
  have hb := sliceB (P := P) (w := w) (len := N) (cap := c) (lo := some (.int kk (l : Nat))) (hi := some (.int kk2 (m : Nat))) l m ⟨kk, rfl⟩ ⟨kk2, rfl⟩ hl (by omega) true
  refine L_val (.slice (if c = l then a else a.map (·.add (l * k))) (m - l) (c - l)) w (by simp) ?_ (h _)
  simp only [execOp, hX, hlo, hhi, Instr.sliceAt, Instr.slice, Sem.run_bind, Sem.run_pure, Result.andThen_ok, run_underlying he.ht, Option.map_none, Option.map_some, hb, run_size he]
/-- The beginning of a row is a row. -/
theorem L_sltoR {α : Type} {X : Operand} {hi : Operand} {T E k bytes B : Nat} {enc : α → List Value} (he : Elem P T E k bytes) (v : Value) (xs : List α) (m : Nat) (hrow : Row w B E k enc v xs) (hk : ∀ x, (enc x).length = k) (hm : m ≤ xs.length)
    (hX : s.ev n X = v) (hhi : ∃ kk, s.ev n hi = .int kk m)
    (h : ∀ v', Row w B E k enc v' (xs.take m) → SameCap v v' → L r P n ops Q rest (s.put d v') w) : L r P n ops Q (⟨d, .slice T X none (some hi) none, ty, pos, af, none⟩ :: rest) s w := by
  obtain ⟨kk, hhi⟩ := hhi
  have hl : (xs.take m).length = m := by rw [List.length_take]; omega
  obtain ⟨hlen, hr⟩ := id hrow
  rcases hr with ⟨rfl, h3⟩ | ⟨g, cap, cur, rfl, hg, hh, hnc, hcm, hcs, htake⟩
  · have hm0 : m = 0 := by omega
    subst hm0
    refine L_val (.slice none 0 0) w (by simp) ?_ (h _ (Row.nil _ _ _ _ _) (.inl ⟨rfl, rfl⟩))
    have hb := sliceB (P := P) (w := w) (len := 0) (cap := 0) (lo := none) (hi := some (.int kk (0 : Nat))) 0 0 rfl ⟨kk, rfl⟩ (Nat.le_refl _) (Nat.le_refl _) true
    simp only [execOp, hX, hhi, Instr.sliceAt, Instr.slice, Sem.run_bind, Sem.run_pure, Result.andThen_ok, run_underlying he.ht, Option.map_none, Option.map_some, hb, run_size he, Option.map_none]
    rfl
  · have hb := sliceB (P := P) (w := w) (len := xs.length) (cap := cap) (lo := none) (hi := some (.int kk (m : Nat))) 0 m rfl ⟨kk, rfl⟩ (Nat.zero_le _) (by omega) true
    refine L_val (.slice (some ⟨g, 0, none⟩) m cap) w (by simp) ?_ (h _ ⟨?_, .inr ⟨g, cap, cur, by rw [hl], hg, hh, by rw [hl]; omega, hcm, hcs, ?_⟩⟩ (.inr ⟨g, _, _, cap, rfl, rfl⟩))
    · simp only [execOp, hX, hhi, Instr.sliceAt, Instr.slice, Sem.run_bind, Sem.run_pure, Result.andThen_ok, run_underlying he.ht, Option.map_none, Option.map_some, hb, run_size he]
      have e : (if cap = 0 then some (⟨g, 0, none⟩ : Addr) else some ((⟨g, 0, none⟩ : Addr).add (0 * k))) = some ⟨g, 0, none⟩ := by
        split
        · rfl
        · rw [add_lit, Nat.zero_mul]
      simp only [Nat.sub_zero, e]
    · rw [flat_len enc k hk]
    · rw [hl]
      have e : xs.flatMap enc = (xs.take m).flatMap enc ++ (xs.drop m).flatMap enc := by rw [← List.flatMap_append, List.take_append_drop]
      have h2 : List.take (m * k) (List.take (xs.length * k) cur.toList) = List.take (m * k) cur.toList := by
        rw [List.take_take, Nat.min_eq_left (Nat.mul_le_mul_right _ hm)]
      have hfl : ((xs.take m).flatMap enc).length = m * k := by rw [flat_len enc k hk, hl]
      rw [← h2, htake, e, ← hfl, List.take_left]
end ops
/-- As my 'run_append_own2', and: in place the capacity stays; else every old block is as it was. -/
theorem run_append_own3 {P : Program} (w : World) (base : Nat) (t ty e : TypeId) (i : TypeInfo) (z : Value) (size bytes : Nat) (ht : P.underlying t = some (.slice e)) (hi : P.info? e = some i) (hz : i.zero = some z)
    (hsize : i.size = size) (hby : i.bytes = bytes) (hzs : z.cells.size = size) (hsz : 0 < size)
    (v : Value) (n : Nat) (xs : List Value) (hown : w.ownsRow base e size v n xs)
    (a : Addr) (m c : Nat) (news : List Value) (hl : news.length = m * size) (hnews : ∀ j u, news[j]? = some u → w.cell? (a.add j) = some u) (h1 : ∀ u ∈ news, u.oneCell' = true)
    (h63 : n + m ≤ maxLen) (hbytes : (n + m) * bytes ≤ 140737488355328) (hbase : base ≤ w.heap.size) :
    ∃ v' w', (Builtin.append_ #[t, t] ty #[v, .slice (some a) m c]).run P w = .ok v' w' ∧ w'.ownsRow base e size v' (n + m) (xs ++ news) ∧ w.grownBy w' v.ownBlock ∧
      (v' = .slice none 0 0 ↔ v = .slice none 0 0 ∧ m = 0) ∧ (v'.ownBlock = v.ownBlock ∨ v'.ownBlock = some w.heap.size) ∧ (SameCap v v' ∨ w.grownBy w' none) := by
  subst hsize
  subst hby
  have hsmall : n + m ≤ 9223372036854775807 := by simp only [maxLen] at h63; omega
  have hlen : (xs ++ news).length = (n + m) * i.size := by rw [List.length_append, hown.1, hl, Nat.add_mul]
  have grown : ∀ (old : Nat), old < n + m → ∀ (row : Option Nat),
      (w.drew.alloc (.cells (xs.toArray ++ news.toArray ++ Builtin.zeroCells z.cells (grownCap w (n + m) old e - (n + m))) e)).ownsRow base e i.size
        (.slice (some ⟨w.heap.size, 0, none⟩) (n + m) (grownCap w (n + m) old e)) (n + m) (xs ++ news) ∧
      w.grownBy (w.drew.alloc (.cells (xs.toArray ++ news.toArray ++ Builtin.zeroCells z.cells (grownCap w (n + m) old e - (n + m))) e)) row := by
    intro old ho row
    have hge := grownCap_ge w (n + m) old e
    have hcm : grownCap w (n + m) old e ≤ maxLen := grownCap_le_maxLen w (n + m) old e h63
    refine ⟨⟨hlen, .inr ⟨w.heap.size, _, _, rfl, hbase, heap_alloc_new w.drew _, hge, hcm, ?_, ?_⟩⟩, ⟨rfl, rfl, rfl, by simp, fun k hk _ => Below.heap_alloc w.drew _ k hk⟩⟩
    · simp only [Array.size_append, List.size_toArray, size_zeroCells, hzs, hown.1, hl, ← Nat.add_mul]
      congr 1
      omega
    · simp only [Array.toList_append, List.append_assoc]
      rw [← List.append_assoc, ← hlen]
      exact List.take_left
  rcases hown.2 with ⟨rfl, rfl⟩ | ⟨g, cap, cur, rfl, hbg, hg, hnc, hcm, hcs, htake⟩
  · have hx : xs = [] := List.eq_nil_of_length_eq_zero (by simpa using hown.1)
    subst hx
    by_cases hm : m = 0
    · subst hm
      have hn : news = [] := List.eq_nil_of_length_eq_zero (by simpa using hl)
      subst hn
      refine ⟨.slice none 0 0, w, ?_, World.ownsRow_nil w base e i.size, ⟨rfl, rfl, rfl, Nat.le_refl _, fun _ _ _ => rfl⟩, by simp, .inl rfl, .inl (.inl ⟨rfl, rfl⟩)⟩
      simp [Builtin.append_, run_underlying ht, sizeOf, typeInfo, hi, Builtin.lenOf, Builtin.firstCells, loadCells, loadCellsFrom]
    · have hr := run_append_nil (P := P) w t ty e i z ht hi hz a m c news hl hnews (by omega) (by omega) (by have hb := hbytes; simp only [Nat.zero_add] at hb; omega)
      have hgr := grown 0 (by omega) (Value.ownBlock (.slice none 0 0))
      have hg0 := grown 0 (by omega) none
      simp only [Nat.zero_add, List.nil_append, Array.empty_append] at hgr hg0 ⊢
      exact ⟨_, _, hr, hgr.1, hgr.2, by simp [hm], .inr rfl, .inr hg0.2⟩
  · by_cases hroom : n + m ≤ cap
    · have hfit : n * i.size + news.length ≤ cur.size := by rw [hl, hcs, ← Nat.add_mul]; exact Nat.mul_le_mul_right _ hroom
      have hr := run_append_room (P := P) w t ty e i ht hi g n cap cur hg a m c news hl hnews h1 hroom hfit
      refine ⟨_, _, hr, ⟨hlen, .inr ⟨g, cap, _, rfl, hbg, setRow_heap w g cur _ e _ hg, hroom, hcm, ?_, ?_⟩⟩, ⟨rfl, rfl, rfl, by simp, fun k _ hk => setRow_other w g k _ (fun e => hk (by simp [Value.ownBlock, e]))⟩, by simp, .inl rfl, .inl (.inr ⟨g, _, _, cap, rfl, rfl⟩)⟩
      · simp only [List.size_toArray, List.length_append, List.length_take, List.length_drop, Array.length_toList]
        omega
      · rw [htake, ← hlen]
        exact List.take_left
    · have holds : ∀ j u, xs[j]? = some u → w.cell? ((⟨g, 0, none⟩ : Addr).add j) = some u := hown.cells (g := g) rfl
      have hr := run_append_grow (P := P) w t ty e i z ht hi hz ⟨g, 0, none⟩ n cap xs hown.1 holds a m c news hl hnews (by omega) (by omega) (growslice_fits (by omega) hbytes)
      have hgr := grown cap (by omega) (Value.ownBlock (.slice (some ⟨g, 0, none⟩) n cap))
      exact ⟨_, _, hr, hgr.1, hgr.2, by simp, .inr rfl, .inr (grown cap (by omega) none).2⟩

section ops
variable {r : Option Nat} {P : Program} {n : Nat} {Q : Post} {s : Fm} {w : World} {ops : Array Oper} {rest : List Oper}
variable {d : Option Tmp} {ty : TypeId} {pos : String} {af : Array Edge}
/-- As 'L_appAll', and what becomes of the old block. -/
theorem L_appPre {α : Type} {A X : Operand} {T E k bytes : Nat} {enc : α → List Value} (he : Elem P T E k bytes) (B : Nat) (v vx : Value) (xs ys : List α) (hB : B ≤ w.heap.size)
    (hrow : Row w B E k enc v xs) (hx : Rd w enc vx ys) (hm : (xs.length + ys.length) * bytes ≤ 140737488355328) (hk : ∀ x, (enc x).length = k) (h1 : ∀ x, (enc x).all (·.oneCell') = true) (hby : Nat.blt 0 bytes = true)
    (hA : s.ev n A = v) (hX : s.ev n X = vx)
    (h : ∀ v' w', Row w' B E k enc v' (xs ++ ys) → w.grownBy w' v.ownBlock → (v'.ownBlock = v.ownBlock ∨ v'.ownBlock = some w.heap.size) → (SameCap v v' ∨ w.grownBy w' none) → L r P n ops Q rest (s.put d v') w') :
    L r P n ops Q (⟨d, .call ⟨.builtin .append, #[A, X], #[T, T]⟩, ty, pos, af, none⟩ :: rest) s w := by
  obtain ⟨i, hq, hz, hks, hbys, z, hzz, hzs⟩ : ∃ i, P.info? E = some i ∧ i.zero.map (fun z => z.cells.size) = some k ∧ i.size = k ∧ i.bytes = bytes ∧ ∃ z, i.zero = some z ∧ z.cells.size = k := by
    have h := he.hi
    cases hq : P.info? E with
    | none => rw [hq] at h; cases h
    | some i =>
      rw [hq] at h
      simp only [Option.map_some, Option.some.injEq, Prod.mk.injEq] at h
      obtain ⟨h1, h2, h3⟩ := h
      cases hz : i.zero with
      | none => rw [hz] at h1; cases h1
      | some z => rw [hz] at h1; exact ⟨i, rfl, by rw [hz]; exact h1, h2, h3, z, hz, by simpa using h1⟩
  have hkp : 0 < k := by have := he.hk; simpa using this
  have hbp : 0 < bytes := by simpa using hby
  obtain ⟨a, c, rfl, hcells⟩ := hx
  rcases Nat.eq_zero_or_pos ys.length with h0 | h0
  · obtain rfl : ys = [] := List.eq_nil_of_length_eq_zero h0
    have hrun : (Builtin.append_ #[T, T] ty #[v, .slice a 0 c]).run P w = .ok v w := by
      obtain ⟨_, hr⟩ := hrow
      rcases hr with ⟨rfl, h3⟩ | ⟨g, cap, cur, rfl, hg, hh, hnc, hcm, hcs, htake⟩
      · cases a <;> simp [Builtin.append_, run_underlying he.ht, sizeOf, typeInfo, hq, Builtin.lenOf, Builtin.firstCells, loadCells, loadCellsFrom]
      · cases a <;> simp [Builtin.append_, run_underlying he.ht, sizeOf, typeInfo, hq, Builtin.lenOf, Builtin.firstCells, loadCells, loadCellsFrom, hnc, storeCells]
    have hsc : SameCap v v := by
      obtain ⟨_, hr⟩ := hrow
      rcases hr with ⟨rfl, h3⟩ | ⟨g, cap, cur, rfl, _⟩
      · exact .inl ⟨rfl, rfl⟩
      · exact .inr ⟨g, _, _, cap, rfl, rfl⟩
    refine L_val v w (by simp) ?_ (h v w (by rw [List.append_nil]; exact hrow) ⟨rfl, rfl, rfl, Nat.le_refl _, fun _ _ _ => rfl⟩ (.inl rfl) (.inl hsc))
    simp only [execOp, resolve, invoke, builtin, Sem.run_bind, Sem.run_pure, Result.andThen_ok, List.map_toArray, List.map_cons, List.map_nil, hA, hX, List.length_nil, hrun]
  · rcases hcells with hc | ⟨g, off, rfl, hc⟩
    · omega
    · have hm2 : xs.length + ys.length ≤ maxLen := by
        have : (xs.length + ys.length) * 1 ≤ (xs.length + ys.length) * bytes := Nat.mul_le_mul_left _ hbp
        unfold maxLen; omega
      obtain ⟨v', w', hrun, hrow', hgrow, _, hwhere, hcap⟩ := run_append_own3 (P := P) w B T ty E i z k bytes he.ht hq hzz hks hbys hzs hkp v xs.length (xs.flatMap enc) hrow ⟨g, off, none⟩ ys.length c (ys.flatMap enc)
        (flat_len enc k hk ys) (fun j u hu => by rw [add_lit]; exact hc j u hu) (enc_flat_one enc h1 ys) hm2 hm hB
      refine L_val v' w' (by simp) ?_ (h v' w' ?_ hgrow hwhere hcap)
      · simp only [execOp, resolve, invoke, builtin, Sem.run_bind, Sem.run_pure, Result.andThen_ok, List.map_toArray, List.map_cons, List.map_nil, hA, hX, hrun]
      · unfold Row
        rw [List.length_append, List.flatMap_append]
        exact hrow'
end ops
theorem SameCap.own {v v' : Value} (h : SameCap v v') : v'.ownBlock = v.ownBlock := by
  rcases h with ⟨rfl, rfl⟩ | ⟨g, n, n', cap, rfl, rfl⟩ <;> rfl
/-- A slice's places are there. -/
def RoomOf (w : World) (E k : Nat) (v : Value) : Prop := ∀ g n cap, v = .slice (some ⟨g, 0, none⟩) n cap → ∃ cur, w.heap[g]? = some (.cells cur E (0, 0)) ∧ n * k ≤ cur.size
theorem Row.room {α : Type} {w : World} {B E k : Nat} {enc : α → List Value} {v : Value} {xs : List α} (h : Row w B E k enc v xs) : RoomOf w E k v := by
  intro g n cap hv
  rcases h.2 with ⟨rfl, _⟩ | ⟨g', cap', cur, rfl, hg, hh, hnc, hcm, hcs, _⟩
  · cases hv
  · cases hv
    exact ⟨cur, hh, by rw [hcs]; exact Nat.mul_le_mul_right _ hnc⟩
theorem room_app {α : Type} {w w' : World} {B E k : Nat} {enc : α → List Value} {v p v2 : Value} {xs zs : List α} (hv : Row w B E k enc v xs) (hp : SameCap v p) (h2 : Row w' B E k enc v2 zs) (hc : SameCap p v2 ∨ w.grownBy w' none) : RoomOf w' E k v := by
  intro g n cap he
  rcases hv.2 with ⟨rfl, _⟩ | ⟨g', cap', cur, rfl, hg, hh, hnc, hcm, hcs, _⟩
  · cases he
  · cases he
    rcases hc with hc | hc
    · rcases hp with ⟨hp, _⟩ | ⟨g1, n1, n1', cap1, hp, rfl⟩
      · cases hp
      · cases hp
        rcases hc with ⟨hc, _⟩ | ⟨g2, n2, n2', cap2, hc, rfl⟩
        · cases hc
        · cases hc
          rcases h2.2 with ⟨h3, _⟩ | ⟨g3, cap3, cur3, h3, _, hh3, _, _, hcs3, _⟩
          · cases h3
          · cases h3
            exact ⟨cur3, hh3, by rw [hcs3]; exact Nat.mul_le_mul_right _ hnc⟩
    · exact ⟨cur, (hc.block g (obj_lt hh) (by simp)).trans hh, by rw [hcs]; exact Nat.mul_le_mul_right _ hnc⟩
theorem Row.tail_wrote {α : Type} {w w' : World} {B E k g : Nat} {enc : α → List Value} {v : Value} {xs : List α} {cs : Array Value} {cs' : List Value} (h : Row w B E k enc v xs) (hh : w.heap[g]? = some (.cells cs E (0, 0))) (hW : Wrote w w' g (.cells cs'.toArray E (0, 0)))
    (hl : cs'.length = cs.size) (ht : cs'.take (xs.length * k) = cs.toList.take (xs.length * k)) : Row w' B E k enc v xs := by
  refine ⟨h.1, ?_⟩
  rcases h.2 with h2 | ⟨g', cap, cur, hv, hg, hh', hnc, hcm, hcs, htake⟩
  · exact .inl h2
  · right
    by_cases hgg : g' = g
    · subst hgg
      rw [hh] at hh'
      cases hh'
      exact ⟨g', cap, _, hv, hg, hW.here, hnc, hcm, by rw [List.size_toArray, hl]; exact hcs, by rw [← htake, ← ht]⟩
    · exact ⟨g', cap, cur, hv, hg, (hW.other g' hgg).trans hh', hnc, hcm, hcs, htake⟩
section ops
variable {r : Option Nat} {P : Program} {n : Nat} {Q : Post} {s : Fm} {w : World} {ops : Array Oper} {rest : List Oper}
variable {d : Option Tmp} {ty : TypeId} {pos : String} {af : Array Edge}
/-- What stands behind a place of a slice is cleared: a row that ends there stays. -/
theorem L_clearTail {α : Type} {X : Operand} {T E k bytes B m lo : Nat} {enc : α → List Value} (he : Elem P T E k bytes) (v v2 tail : Value) (ys : List α) (hT : TailOf k m lo v tail) (hroom : RoomOf w E k v) (hrow : Row w B E k enc v2 ys) (hlo : ys.length = lo) (hlt : lo < m)
    (hsh : SliceOk v m) (hz1 : ∀ z, (P.info? E).bind (·.zero) = some z → ∀ u ∈ z.cells.toList, u.oneCell' = true)
    (hX : s.ev n X = tail)
    (h : ∀ w', Row w' B E k enc v2 ys → w.grownBy w' v.ownBlock → L r P n ops Q rest (s.put d (.tuple #[])) w') : L r P n ops Q (⟨d, .call ⟨.builtin .clear, #[X], #[T]⟩, ty, pos, af, none⟩ :: rest) s w := by
  obtain ⟨i, hq, hz, hks, z, hzz, hzs⟩ : ∃ i, P.info? E = some i ∧ i.zero.map (fun z => z.cells.size) = some k ∧ i.size = k ∧ ∃ z, i.zero = some z ∧ z.cells.size = k := by
    have h := he.hi
    cases hq : P.info? E with
    | none => rw [hq] at h; cases h
    | some i =>
      rw [hq] at h
      simp only [Option.map_some, Option.some.injEq, Prod.mk.injEq] at h
      obtain ⟨h1, h2, h3⟩ := h
      cases hz : i.zero with
      | none => rw [hz] at h1; cases h1
      | some z => rw [hz] at h1; exact ⟨i, rfl, by rw [hz]; exact h1, h2, z, hz, by simpa using h1⟩
  rcases hT with ⟨h0, _, _⟩ | ⟨g, cap, rfl, rfl⟩
  · omega
  · have hmc : m ≤ cap := by
      rcases hsh with ⟨_, h⟩ | ⟨g', cap', h, h3⟩
      · cases h
      · cases h; exact h3
    obtain ⟨cur, hh, hsz⟩ := hroom g m cap rfl
    rw [if_neg (by omega)] at hX
    have hlen : (Builtin.zeroCells z.cells (m - lo)).toList.length = (m - lo) * k := by rw [Array.length_toList, size_zeroCells, hzs]
    have hfit : lo * k + (m - lo) * k ≤ cur.size := by rw [← Nat.add_mul, show lo + (m - lo) = m by omega]; exact hsz
    have hst := run_storeCells_at (P := P) g (lo * k) E (Builtin.zeroCells z.cells (m - lo)).toList 0 cur w hh (by rw [hlen]; omega) ?_
    · simp only [Nat.add_zero] at hst
      have hrun : (Builtin.clear_ #[T] ty #[.slice (some ⟨g, lo * k, none⟩) (m - lo) (cap - lo)]).run P w = .ok (.tuple #[]) (w.setRow g (cur.toList.take (lo * k) ++ (Builtin.zeroCells z.cells (m - lo)).toList ++ cur.toList.drop (lo * k + (Builtin.zeroCells z.cells (m - lo)).toList.length)).toArray) := by
        obtain ⟨j, hj⟩ : ∃ j, m - lo = j + 1 := ⟨m - lo - 1, by omega⟩
        rw [hj] at hst ⊢
        simp [Builtin.clear_, run_underlying he.ht, zeroValue, typeInfo, hq, hzz, hst]
      have hW : Wrote w (w.setRow g (cur.toList.take (lo * k) ++ (Builtin.zeroCells z.cells (m - lo)).toList ++ cur.toList.drop (lo * k + (Builtin.zeroCells z.cells (m - lo)).toList.length)).toArray) g (.cells (cur.toList.take (lo * k) ++ (Builtin.zeroCells z.cells (m - lo)).toList ++ cur.toList.drop (lo * k + (Builtin.zeroCells z.cells (m - lo)).toList.length)).toArray E (0, 0)) :=
        ⟨rfl, rfl, rfl, by simp [World.setRow], setRow_heap w g cur _ E (0, 0) hh, fun k' hk' => by simp only [World.setRow, Array.getElem?_modify]; rw [if_neg (fun e => hk' e.symm)]⟩
      refine L_val _ _ (by simp) ?_ (h _ (hrow.tail_wrote hh hW ?_ ?_) (grown_of_wrote hW rfl))
      · simp only [execOp, resolve, invoke, builtin, Sem.run_bind, Sem.run_pure, Result.andThen_ok, List.map_toArray, List.map_cons, List.map_nil, hX, hrun]
      · rw [List.length_append, List.length_append, List.length_take, List.length_drop, hlen, Array.length_toList]; omega
      · rw [hlo, List.append_assoc, List.take_append_of_le_length (by rw [List.length_take, Array.length_toList]; omega), List.take_take, Nat.min_self]
    · intro u hu
      have := hz1 z (by rw [hq]; exact hzz)
      simp only [Builtin.zeroCells, Array.toList_map, List.mem_map] at hu
      obtain ⟨j, _, rfl⟩ := hu
      have hkp : 0 < k := by have := he.hk; simpa using this
      have hlt2 : j % z.cells.size < z.cells.size := Nat.mod_lt _ (by omega)
      rw [getElem!_pos z.cells _ hlt2]
      exact this _ (by simp)
end ops
end Go.FK
