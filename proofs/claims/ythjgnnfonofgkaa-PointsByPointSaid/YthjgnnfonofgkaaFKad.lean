/- FKad: the cells of a row's block as they lie: slices of the block, copies into it. My own text. -/
import Derived.Test.YthjgnnfonofgkaaFKs
import Derived.Laws.CopyRow
import Derived.Lib.Overlaps
import Derived.Lib.AppendZerosOnto
set_option linter.unusedVariables false
namespace Go.FK
open Go Go.RowKit
/-- From place a on lie these elements. -/
def AtE {α : Type} (enc : α → List Value) (k : Nat) (cur : List Value) (a : Nat) (ys : List α) : Prop := (cur.drop (a * k)).take (ys.length * k) = ys.flatMap enc
def putAt (k : Nat) (cur : List Value) (a : Nat) (cs : List Value) : List Value := cur.take (a * k) ++ cs ++ cur.drop (a * k + cs.length)
structure Raw (w : World) (B E k g cap : Nat) (cur : List Value) : Prop where
  base : B ≤ g
  here : w.heap[g]? = some (.cells cur.toArray E (0, 0))
  capm : cap ≤ maxLen
  size : cur.length = cap * k
theorem putAt_len {k a : Nat} {cur cs : List Value} (h : a * k + cs.length ≤ cur.length) : (putAt k cur a cs).length = cur.length := by
  unfold putAt; rw [List.length_append, List.length_append, List.length_take, List.length_drop]; omega
section
variable {α : Type} {enc : α → List Value} {k : Nat} {cur cs : List Value}
theorem flat_len' (hk : ∀ x, (enc x).length = k) (ys : List α) : (ys.flatMap enc).length = ys.length * k := flat_len enc k hk ys
theorem at_put {a : Nat} {ys : List α} (hk : ∀ x, (enc x).length = k) (h : a * k + ys.length * k ≤ cur.length) : AtE enc k (putAt k cur a (ys.flatMap enc)) a ys := by
  have h2 := flat_len' hk ys
  have h3 : (cur.take (a * k)).length = a * k := by rw [List.length_take]; omega
  unfold AtE putAt
  rw [List.append_assoc, List.drop_append_of_le_length (by omega), List.drop_of_length_le (l := cur.take (a * k)) (by omega), List.nil_append, List.take_append_of_le_length (by omega), ← h2, List.take_length]
theorem at_lo {a b : Nat} {zs : List α} (h : AtE enc k cur b zs) (hb : b + zs.length ≤ a) (hl : a * k ≤ cur.length) : AtE enc k (putAt k cur a cs) b zs := by
  have h1 : b * k + zs.length * k ≤ a * k := by rw [← Nat.add_mul]; exact Nat.mul_le_mul_right _ hb
  have h3 : (cur.take (a * k)).length = a * k := by rw [List.length_take]; omega
  unfold AtE at h ⊢
  unfold putAt
  rw [List.append_assoc, List.drop_append_of_le_length (by omega), List.take_append_of_le_length (by rw [List.length_drop]; omega), List.drop_take, List.take_take, Nat.min_eq_left (by omega)]
  exact h
theorem at_hi {a b : Nat} {zs ys : List α} (hk : ∀ x, (enc x).length = k) (h : AtE enc k cur b zs) (hb : a + ys.length ≤ b) (hl : a * k + ys.length * k ≤ cur.length) : AtE enc k (putAt k cur a (ys.flatMap enc)) b zs := by
  have h1 : a * k + ys.length * k ≤ b * k := by rw [← Nat.add_mul]; exact Nat.mul_le_mul_right _ hb
  have h2 := flat_len' hk ys
  have h3 : (cur.take (a * k)).length = a * k := by rw [List.length_take]; omega
  unfold AtE at h ⊢
  unfold putAt
  rw [List.drop_append, List.drop_of_length_le (by rw [List.length_append]; omega), List.nil_append, List.drop_drop, List.length_append, h3, h2]
  rw [show a * k + ys.length * k + (b * k - (a * k + ys.length * k)) = b * k by omega]
  exact h
theorem at_split {a : Nat} {xs ys : List α} (hk : ∀ x, (enc x).length = k) (h : AtE enc k cur a (xs ++ ys)) : AtE enc k cur a xs ∧ AtE enc k cur (a + xs.length) ys := by
  have h1 := flat_len' hk xs
  have h2 := flat_len' hk ys
  unfold AtE at h ⊢
  rw [List.length_append, Nat.add_mul, List.flatMap_append] at h
  constructor
  · have := congrArg (List.take (xs.length * k)) h
    rw [List.take_take, Nat.min_eq_left (by omega), List.take_append_of_le_length (by omega), ← h1, List.take_length] at this
    rw [← h1]; exact this
  · have := congrArg (List.drop (xs.length * k)) h
    rw [List.drop_take, List.drop_drop, List.drop_append_of_le_length (by omega), List.drop_of_length_le (l := xs.flatMap enc) (by omega), List.nil_append, Nat.add_sub_cancel_left] at this
    rw [Nat.add_mul]; exact this
theorem at_join {a : Nat} {xs ys : List α} (hk : ∀ x, (enc x).length = k) (h1 : AtE enc k cur a xs) (h2 : AtE enc k cur (a + xs.length) ys) : AtE enc k cur a (xs ++ ys) := by
  have h3 := flat_len' hk xs
  unfold AtE at h1 h2 ⊢
  rw [List.length_append, Nat.add_mul, List.flatMap_append, ← h1, ← h2, Nat.add_mul, ← List.drop_drop, List.take_add]
theorem at_mid {a : Nat} {xs : List α} (hk : ∀ x, (enc x).length = k) (h : AtE enc k cur a xs) (i : Nat) (hi : i ≤ xs.length) : AtE enc k cur a (xs.take i) ∧ AtE enc k cur (a + i) (xs.drop i) := by
  have h2 : AtE enc k cur a (xs.take i ++ xs.drop i) := by rw [List.take_append_drop]; exact h
  have h3 := at_split hk h2
  rwa [List.length_take, Nat.min_eq_left hi] at h3
theorem at_cells {a : Nat} {ys : List α} {w : World} {B E g cap : Nat} (hk : ∀ x, (enc x).length = k) (hr : Raw w B E k g cap cur) (h : AtE enc k cur a ys) : ∀ j u, (ys.flatMap enc)[j]? = some u → w.cell? ((⟨g, a * k, none⟩ : Addr).add j) = some u := by
  intro j u hu
  have hj : j < ys.length * k := by
    have := (List.getElem?_eq_some_iff.1 hu).1
    rwa [flat_len' hk] at this
  rw [add_lit]
  refine cell_obj hr.here ?_
  unfold AtE at h
  rw [← h, List.getElem?_take, if_pos hj, List.getElem?_drop] at hu
  simpa using hu
end
theorem Row.raw {α : Type} {enc : α → List Value} {w : World} {B E k : Nat} {v : Value} {xs : List α} (h : Row w B E k enc v xs) (hk : ∀ x, (enc x).length = k) (hn : 0 < xs.length) :
    ∃ g cap cur, v = .slice (some ⟨g, 0, none⟩) xs.length cap ∧ xs.length ≤ cap ∧ Raw w B E k g cap cur ∧ AtE enc k cur 0 xs := by
  rcases h.2 with ⟨_, h3⟩ | ⟨g, cap, cur, hv, hg, hh, hnc, hcm, hcs, ht⟩
  · omega
  · refine ⟨g, cap, cur.toList, hv, hnc, ⟨hg, by simpa using hh, hcm, by simpa using hcs⟩, ?_⟩
    unfold AtE
    rw [Nat.zero_mul, List.drop_zero]; exact ht
theorem Raw.row {α : Type} {enc : α → List Value} {w : World} {B E k g cap : Nat} {cur : List Value} {zs : List α} (h : Raw w B E k g cap cur) (hk : ∀ x, (enc x).length = k) {N : Nat} (hN : N = zs.length) (hl : zs.length ≤ cap) (hz : AtE enc k cur 0 zs) :
    Row w B E k enc (.slice (some ⟨g, 0, none⟩) N cap) zs := by
  subst hN
  refine ⟨flat_len' hk zs, .inr ⟨g, cap, cur.toArray, rfl, h.base, h.here, hl, h.capm, by simpa using h.size, ?_⟩⟩
  unfold AtE at hz
  rw [Nat.zero_mul, List.drop_zero] at hz; exact hz
theorem Raw.grown {w w' : World} {B E k g cap : Nat} {cur : List Value} {row : Option Nat} (h : Raw w B E k g cap cur) (hg : w.grownBy w' row) (hne : row ≠ some g) : Raw w' B E k g cap cur :=
  ⟨h.base, (hg.block g (obj_lt h.here) (fun e => hne e.symm)).trans h.here, h.capm, h.size⟩
theorem at_cast {α : Type} {enc : α → List Value} {k : Nat} {cur : List Value} {a b : Nat} {ys : List α} (h : AtE enc k cur a ys) (e : a = b) : AtE enc k cur b ys := e ▸ h
theorem at_rd {α : Type} {enc : α → List Value} {w : World} {B E k g cap a c : Nat} {cur : List Value} {ys : List α} (hr : Raw w B E k g cap cur) (hk : ∀ x, (enc x).length = k) (h : AtE enc k cur a ys) {N : Nat} (hN : N = ys.length) : Rd w enc (.slice (some ⟨g, a * k, none⟩) N c) ys := by
  subst hN
  refine ⟨_, c, rfl, .inr ⟨g, a * k, rfl, fun j u hu => ?_⟩⟩
  have := at_cells hk hr h j u hu
  rwa [add_lit] at this
theorem Row.mono0 {α : Type} {w : World} {B E k : Nat} {enc : α → List Value} {v : Value} {xs : List α} (h : Row w B E k enc v xs) : Row w 0 E k enc v xs := by
  refine ⟨h.1, ?_⟩
  rcases h.2 with h2 | ⟨g, cap, cur, hv, hg, r⟩
  · exact .inl h2
  · exact .inr ⟨g, cap, cur, hv, Nat.zero_le _, r⟩
theorem samecap_val {α : Type} {w : World} {B E k g N cap : Nat} {enc : α → List Value} {v p : Value} {ys : List α} (h : SameCap v p) (hv : v = .slice (some ⟨g, 0, none⟩) N cap) (hp : Row w B E k enc p ys) : (∃ a, p = .slice a ys.length cap) ∧ ys.length ≤ cap := by
  subst hv
  rcases h with ⟨h1, _⟩ | ⟨g1, n1, n2, c1, h1, rfl⟩
  · cases h1
  · cases h1
    rcases hp.2 with ⟨h2, _⟩ | ⟨g2, cap2, cur, h2, _, _, hnc, _⟩
    · cases h2
    · cases h2
      exact ⟨⟨_, rfl⟩, hnc⟩
theorem raw_own {v : Value} {g N cap : Nat} (hv : v = .slice (some ⟨g, 0, none⟩) N cap) : Value.ownBlock v = some g := by rw [hv]; rfl
theorem Raw.shape {w : World} {B E k g cap : Nat} {cur : List Value} (h : Raw w B E k g cap cur) : w.shape? g = some (E, cur.length) := by unfold World.shape?; rw [h.here]; simp
theorem Raw.frozen {w : World} {B E k g cap : Nat} {cur : List Value} (h : Raw w B E k g cap cur) (j : Nat) : w.frozen? ⟨g, j, none⟩ = false := by unfold World.frozen?; rw [h.here]; simp
theorem grow_ne {w : World} {B E k g cap : Nat} {cur : List Value} {v : Value} (h : Raw w B E k g cap cur) (hn : v.ownBlock = some w.heap.size) : v.ownBlock ≠ some g := by
  rw [hn]; intro e
  have := obj_lt h.here
  have e2 := Option.some.inj e
  omega
theorem Raw.le {w : World} {B E k g cap a : Nat} {cur : List Value} (h : Raw w B E k g cap cur) (ha : a ≤ cap) : a * k ≤ cur.length := by rw [h.size]; exact Nat.mul_le_mul_right _ ha
theorem Raw.le2 {w : World} {B E k g cap a c : Nat} {cur : List Value} (h : Raw w B E k g cap cur) (ha : a + c ≤ cap) : a * k + c * k ≤ cur.length := by rw [h.size, ← Nat.add_mul]; exact Nat.mul_le_mul_right _ ha
theorem tail_len {k n lo : Nat} {v v' : Value} (h : TailOf k n lo v v') : ∃ a c, v' = .slice a (n - lo) c := by
  rcases h with ⟨rfl, _, rfl⟩ | ⟨g, cap, _, rfl⟩
  · exact ⟨none, 0, by rw [Nat.zero_sub]⟩
  · exact ⟨_, _, rfl⟩
theorem zer_new {α : Type} {w : World} {B E k N : Nat} {enc : α → List Value} {v : Value} {xs : List α} (h : Row w B E k enc v xs) (how : v.ownBlock = (Value.slice none 0 0).ownBlock ∨ v.ownBlock = some N) (hn : 0 < xs.length) : v.ownBlock = some N := by
  rcases how with h1 | h1
  · rcases h.2 with ⟨rfl, h2⟩ | ⟨g, cap, cur, rfl, _⟩
    · omega
    · cases h1
  · exact h1
theorem rne_of {v u : Value} {g b n m c e : Nat} (hv : v = .slice (some ⟨g, 0, none⟩) n c) (hu : u = .slice (some ⟨b, 0, none⟩) m e) (h : v.ownBlock = none ∨ v.ownBlock ≠ u.ownBlock) : g ≠ b := by
  subst hv; subst hu
  rintro rfl
  rcases h with h | h
  · cases h
  · exact h rfl
theorem grown_w {w w' : World} {g : Nat} {o : Obj} (h : Wrote w w' g o) : w.grownBy w' (some g) := ⟨h.os, h.tape, h.output, Nat.le_of_eq h.size.symm, fun k _ hk => h.other k (fun e => hk (by rw [e]))⟩
section ops
variable {r : Option Nat} {P : Program} {n : Nat} {Q : Post} {s : Fm} {w : World} {ops : Array Oper} {rest : List Oper}
variable {d : Option Tmp} {ty : TypeId} {pos : String} {af : Array Edge}
theorem L_cap {ats : Array TypeId} {X : Operand} (t E c : Nat) (v : Value) (hat : ats[0]? = some t) (hu : P.underlying t = some (.slice E)) (hv : ∃ a m, v = .slice a m c) (hx : s.ev n X = v)
    (h : L r P n ops Q rest (s.put d (.int .i64 (c : Nat))) w) : L r P n ops Q (⟨d, .call ⟨.builtin .cap, #[X], ats⟩, ty, pos, af, none⟩ :: rest) s w := by
  obtain ⟨a, m, rfl⟩ := hv
  refine L_val _ w (by simp) ?_ h
  simp [execOp, resolve, invoke, builtin, Builtin.cap_, hat, hx, run_underlying hu, goInt, Sem.run_pure, Sem.run_bind]
/-- The beginning of a block's slice, or more of the block than it shows. -/
theorem L_slTot {X : Operand} {hi : Operand} {T E k bytes : Nat} (he : Elem P T E k bytes) (v : Value) (g N c tot : Nat) (hv : v = .slice (some ⟨g, 0, none⟩) N c) (hX : s.ev n X = v) (hhi : ∃ kk, s.ev n hi = .int kk tot) (h2 : tot ≤ c)
    (h : L r P n ops Q rest (s.put d (.slice (some ⟨g, 0, none⟩) tot c)) w) : L r P n ops Q (⟨d, .slice T X none (some hi) none, ty, pos, af, none⟩ :: rest) s w := by
  subst hv
  obtain ⟨kk, hhi⟩ := hhi
  have hb := sliceB (P := P) (w := w) (len := N) (cap := c) (lo := none) (hi := some (.int kk (tot : Nat))) 0 tot rfl ⟨kk, rfl⟩ (Nat.zero_le _) h2 true
  refine L_val _ w (by simp) ?_ h
  have e : (if c = 0 then some (⟨g, 0, none⟩ : Addr) else some ((⟨g, 0, none⟩ : Addr).add (0 * k))) = some ⟨g, 0, none⟩ := by
    split
    · rfl
    · rw [add_lit, Nat.zero_mul]
  simp only [execOp, hX, hhi, Instr.sliceAt, Instr.slice, Sem.run_bind, Sem.run_pure, Result.andThen_ok, run_underlying he.ht, hb, run_size he, Option.map_none, Option.map_some, e, Nat.sub_zero]
/-- A slice of a block's slice. -/
theorem L_slRaw {X : Operand} {lo hi : Option Operand} {T E k bytes : Nat} (he : Elem P T E k bytes) (v : Value) (g o N c l hh : Nat) (hv : v = .slice (some ⟨g, o * k, none⟩) N c) (hX : s.ev n X = v)
    (hlo : match lo with | none => l = 0 | some x => ∃ kk, s.ev n x = .int kk l) (hhi : match hi with | none => hh = N | some x => ∃ kk, s.ev n x = .int kk hh) (h1 : l ≤ hh) (h2 : hh ≤ c) (h3 : l < c)
    (h : L r P n ops Q rest (s.put d (.slice (some ⟨g, (o + l) * k, none⟩) (hh - l) (c - l))) w) : L r P n ops Q (⟨d, .slice T X lo hi none, ty, pos, af, none⟩ :: rest) s w := by
  subst hv
  have hb := sliceB (P := P) (w := w) (len := N) (cap := c) (lo := lo.map (s.ev n)) (hi := hi.map (s.ev n)) l hh (by cases lo <;> exact hlo) (by cases hi <;> exact hhi) h1 h2 true
  refine L_val _ w (by simp) ?_ h
  have e : (if c = l then some (⟨g, o * k, none⟩ : Addr) else some ((⟨g, o * k, none⟩ : Addr).add (l * k))) = some ⟨g, (o + l) * k, none⟩ := by
    rw [if_neg (by omega), add_lit, Nat.add_mul]
  simp only [execOp, hX, Instr.sliceAt, Instr.slice, Sem.run_bind, Sem.run_pure, Result.andThen_ok, run_underlying he.ht, hb, run_size he, Option.map_none, Option.map_some, e]
theorem run_copyCells (T elem ty : TypeId) {k : Nat} (hu : P.underlying T = some (.slice elem)) (hz : ∀ w, (sizeOf elem).run P w = .ok k w) (g a p c1 : Nat) (A : Addr) (q c2 : Nat) (cur cs : List Value) (E : TypeId)
    (hg : w.heap[g]? = some (.cells cur.toArray E (0, 0))) (c : Nat) (hc : c = Nat.min q p) (hn : cs.length = c * k) (hsrc : ∀ j v, cs[j]? = some v → w.cell? (A.add j) = some v) (hfit : a * k + cs.length ≤ cur.length) (h1 : ∀ v ∈ cs, v.oneCell' = true) :
    (Builtin.copy_ #[T, T] ty #[.slice (some ⟨g, a * k, none⟩) p c1, .slice (some A) q c2]).run P w = .ok (goInt c) (w.setRow g (putAt k cur a cs).toArray) := by
  have hl := run_loadCells_list (P := P) w A cs hsrc
  have hst := run_storeCells_at P g (a * k) E cs 0 cur.toArray w hg (by simpa using hfit) h1
  rw [hn] at hl
  simp only [Nat.add_zero] at hst
  simp [Builtin.copy_, run_underlying hu, Builtin.lenOf, Builtin.firstCells, hz, ← hc, hl, hst, putAt]
theorem wrote_set {g : Nat} {cur : Array Value} {E : TypeId} {x : Array Value} (hg : w.heap[g]? = some (.cells cur E (0, 0))) : Wrote w (w.setRow g x) g (.cells x E (0, 0)) :=
  ⟨rfl, rfl, rfl, by simp [World.setRow], setRow_heap w g cur _ E (0, 0) hg, fun k' hk' => by simp only [World.setRow, Array.getElem?_modify]; rw [if_neg (fun e => hk' e.symm)]⟩
theorem Raw.put {B E k g cap a : Nat} {cur cs : List Value} (h : Raw w B E k g cap cur) (hf : a * k + cs.length ≤ cur.length) : Raw (w.setRow g (putAt k cur a cs).toArray) B E k g cap (putAt k cur a cs) :=
  ⟨h.base, setRow_heap w g _ _ E (0, 0) h.here, h.capm, by rw [putAt_len hf]; exact h.size⟩
/-- A slice's elements copied into the block. -/
theorem L_copyRd {α : Type} {enc : α → List Value} {X Y : Operand} {T E k bytes B g cap a p c1 : Nat} {cur : List Value} (he : Elem P T E k bytes) (vy : Value) (ys : List α) (hraw : Raw w B E k g cap cur) (hrd : Rd w enc vy ys) (hk : ∀ x, (enc x).length = k) (h1 : ∀ x, (enc x).all (·.oneCell') = true)
    (hX : s.ev n X = .slice (some ⟨g, a * k, none⟩) p c1) (hY : s.ev n Y = vy) (hq : ys.length ≤ p) (hfit : a + ys.length ≤ cap)
    (h : ∀ w', Raw w' B E k g cap (putAt k cur a (ys.flatMap enc)) → w.grownBy w' (some g) → L r P n ops Q rest (s.put d (.int .i64 (ys.length : Nat))) w') :
    L r P n ops Q (⟨d, .call ⟨.builtin .copy, #[X, Y], #[T, T]⟩, ty, pos, af, none⟩ :: rest) s w := by
  have hfl := flat_len' hk ys
  have hfit2 : a * k + (ys.flatMap enc).length ≤ cur.length := by rw [hfl, hraw.size, ← Nat.add_mul]; exact Nat.mul_le_mul_right _ hfit
  obtain ⟨A, c2, rfl, hq2⟩ := hrd
  have fin : ∀ w', (Builtin.copy_ #[T, T] ty #[.slice (some ⟨g, a * k, none⟩) p c1, .slice A ys.length c2]).run P w = .ok (goInt ys.length) w' → Raw w' B E k g cap (putAt k cur a (ys.flatMap enc)) → w.grownBy w' (some g) →
      L r P n ops Q (⟨d, .call ⟨.builtin .copy, #[X, Y], #[T, T]⟩, ty, pos, af, none⟩ :: rest) s w := fun w' hrun hr hg => by
    refine L_val (goInt ys.length) w' (by simp) ?_ (h w' hr hg)
    simp only [execOp, resolve, invoke, builtin, Sem.run_bind, Sem.run_pure, Result.andThen_ok, List.map_toArray, List.map_cons, List.map_nil, hX, hY, hrun]
  rcases hq2 with h0 | ⟨gy, off, rfl, hc⟩
  · obtain rfl : ys = [] := List.eq_nil_of_length_eq_zero h0
    refine fin w ?_ ?_ ⟨rfl, rfl, rfl, Nat.le_refl _, fun _ _ _ => rfl⟩
    · cases A with
      | none => simp [Builtin.copy_, run_underlying he.ht, Builtin.lenOf, Builtin.firstCells, run_size he, storeCells]
      | some A => simp [Builtin.copy_, run_underlying he.ht, Builtin.lenOf, Builtin.firstCells, run_size he, loadCells, loadCellsFrom, storeCells]
    · have e : putAt k cur a (([] : List α).flatMap enc) = cur := by simp [putAt]
      rw [e]; exact hraw
  · refine fin _ (run_copyCells T E ty he.ht (fun _ => run_size he) g a p c1 ⟨gy, off, none⟩ ys.length c2 cur _ E hraw.here ys.length (by show _ = min _ _; omega) hfl (fun j u hu => by rw [add_lit]; exact hc j u hu) hfit2 (enc_flat_one enc h1 ys)) (hraw.put hfit2) (grown_w (wrote_set hraw.here))
/-- Elements of the block itself, copied to another place of it. -/
theorem L_copySelf {α : Type} {enc : α → List Value} {X Y : Operand} {T E k bytes B g cap a p c1 b q c2 : Nat} {cur : List Value} (he : Elem P T E k bytes) (ys : List α) (hraw : Raw w B E k g cap cur) (hat : AtE enc k cur b ys) (hk : ∀ x, (enc x).length = k) (h1 : ∀ x, (enc x).all (·.oneCell') = true)
    (hX : s.ev n X = .slice (some ⟨g, a * k, none⟩) p c1) (hY : s.ev n Y = .slice (some ⟨g, b * k, none⟩) q c2) (hc : ys.length = min q p) (hfit : a + ys.length ≤ cap)
    (h : ∀ w', Raw w' B E k g cap (putAt k cur a (ys.flatMap enc)) → w.grownBy w' (some g) → L r P n ops Q rest (s.put d (.int .i64 (ys.length : Nat))) w') :
    L r P n ops Q (⟨d, .call ⟨.builtin .copy, #[X, Y], #[T, T]⟩, ty, pos, af, none⟩ :: rest) s w := by
  have hfl := flat_len' hk ys
  have hfit2 : a * k + (ys.flatMap enc).length ≤ cur.length := by rw [hfl, hraw.size, ← Nat.add_mul]; exact Nat.mul_le_mul_right _ hfit
  have hrun := run_copyCells (w := w) T E ty he.ht (fun _ => run_size he) g a p c1 ⟨g, b * k, none⟩ q c2 cur _ E hraw.here ys.length hc hfl (at_cells hk hraw hat) hfit2 (enc_flat_one enc h1 ys)
  refine L_val (goInt ys.length) _ (by simp) ?_ (h _ (hraw.put hfit2) (grown_w (wrote_set hraw.here)))
  simp only [execOp, resolve, invoke, builtin, Sem.run_bind, Sem.run_pure, Result.andThen_ok, List.map_toArray, List.map_cons, List.map_nil, hX, hY, hrun]
/-- Zeros, as many as asked. -/
theorem zero_flat {α : Type} {enc : α → List Value} {k : Nat} (hk0 : 0 < k) (z0 : α) (zs : Array Value) (hz : zs.toList = enc z0) (hk : (enc z0).length = k) : ∀ c : Nat, (Builtin.zeroCells zs c).toList = (List.replicate c z0).flatMap enc := by
  have hsz : zs.size = k := by rw [← Array.length_toList, hz, hk]
  intro c
  induction c with
  | zero => simp [Builtin.zeroCells]
  | succ c ih =>
    rw [List.replicate_succ', List.flatMap_append, ← ih]
    unfold Builtin.zeroCells
    simp only [Array.toList_map, Array.toList_range, hsz]
    rw [show (c + 1) * k = c * k + k by rw [Nat.succ_mul], List.range_add, List.map_append, List.map_map]
    congr 1
    apply List.ext_getElem?
    intro j
    simp only [List.getElem?_map, List.flatMap_cons, List.flatMap_nil, List.append_nil]
    by_cases hj : j < k
    · rw [List.getElem?_range hj]
      simp only [Option.map_some, Function.comp]
      rw [Nat.mul_comm c k, Nat.mul_add_mod, Nat.mod_eq_of_lt hj, getElem!_pos zs _ (by omega), ← hz]
      simp [hsz, hj]
    · rw [List.getElem?_eq_none (by simp; omega), List.getElem?_eq_none (by omega)]; rfl
/-- append(s, make([]T, c)...) where there is no room: a new row. -/
theorem L_appZeros {α : Type} {enc : α → List Value} {A X : Operand} {T tn E k bytes : Nat} {kn kq : IntKind} (he : Elem P T E k bytes) (htn : P.underlying tn = some (.int kn)) (z0 : α) (hz0 : ((P.info? E).bind (·.zero)).map (·.cells.toList) = some (enc z0)) (B : Nat) (v : Value) (xs : List α) (c cap : Nat)
    (hB : B ≤ w.heap.size) (hrow : Row w B E k enc v xs) (hk : ∀ x, (enc x).length = k) (hv : ∃ a, v = .slice a xs.length cap) (hc : 0 < c) (hg : cap < xs.length + c) (hm : (xs.length + c) * bytes ≤ 140737488355328) (hcap : xs.length ≤ cap) (hby : Nat.blt 0 bytes = true)
    (hA : s.ev n A = v) (hX : s.ev n X = .int kq c)
    (h : ∀ v' w', Row w' B E k enc v' (xs ++ List.replicate c z0) → w.grownBy w' (Value.slice none 0 0).ownBlock → (v'.ownBlock = (Value.slice none 0 0).ownBlock ∨ v'.ownBlock = some w.heap.size) → L r P n ops Q rest (s.put d v') w') :
    L r P n ops Q (⟨d, .call ⟨.builtin .append, #[A, X], #[T, tn]⟩, ty, pos, af, none⟩ :: rest) s w := by
  obtain ⟨i, hq, hks, hbys, z, hzz, hzs, hzc⟩ : ∃ i, P.info? E = some i ∧ i.size = k ∧ i.bytes = bytes ∧ ∃ z, i.zero = some z ∧ z.cells.size = k ∧ z.cells.toList = enc z0 := by
    have h := he.hi
    cases hq : P.info? E with
    | none => rw [hq] at h; cases h
    | some i =>
      rw [hq] at h hz0
      simp only [Option.map_some, Option.some.injEq, Prod.mk.injEq] at h
      obtain ⟨h1, h2, h3⟩ := h
      cases hz : i.zero with
      | none => rw [hz] at h1; cases h1
      | some z =>
        rw [hz] at h1
        simp only [Option.bind_some, hz, Option.map_some, Option.some.injEq] at hz0
        exact ⟨i, rfl, h2, h3, z, hz, by simpa using h1, hz0⟩
  have hkp : 0 < k := by have := he.hk; simpa using this
  have hbp : 0 < bytes := by simpa using hby
  obtain ⟨a, rfl⟩ := hv
  have hN : (xs.length + c) * 1 ≤ (xs.length + c) * bytes := Nat.mul_le_mul_left _ hbp
  have hcells : (Builtin.firstCells k xs.length (.slice a xs.length cap)).run P w.drew = .ok (xs.flatMap enc).toArray w.drew := by
    rcases hrow.2 with ⟨h1, h3⟩ | ⟨g, cap', cur, h1, hg', hh, hnc, hcm, hcs, ht⟩
    · injection h1 with e1 e2 e3
      subst e1
      obtain rfl : xs = [] := List.eq_nil_of_length_eq_zero h3
      simp [Builtin.firstCells, Sem.run_pure]
    · injection h1 with e1 e2 e3
      subst e1; subst e3
      have hsrc : ∀ j u, (xs.flatMap enc)[j]? = some u → w.drew.cell? ((⟨g, 0, none⟩ : Addr).add j) = some u := fun j u hu => hrow.cells (g := g) rfl j u hu
      have := run_loadCells_list (P := P) w.drew ⟨g, 0, none⟩ (xs.flatMap enc) hsrc
      rw [flat_len' hk] at this
      exact this
  have hgc := grownCap_ge w (xs.length + c) cap E
  have hgm := grownCap_le_maxLen w (xs.length + c) cap E (by unfold maxLen; omega)
  have hrun := Lib.run_append_grow_zeros (P := P) w T tn ty E i z kq kn he.ht htn hq hzz a xs.length cap (xs.flatMap enc) (by rw [hks]; exact hcells) c hc (by omega) hg (by omega)
    (by rw [hbys]; have : c * bytes ≤ (xs.length + c) * bytes := Nat.mul_le_mul_right _ (by omega); omega) (growslice_fits (by omega) (by rw [hbys]; exact hm))
  refine L_val _ _ (by simp) ?_ (h (.slice (some ⟨w.heap.size, 0, none⟩) (xs.length + c) (grownCap w (xs.length + c) cap E)) (w.drew.alloc (.cells ((xs.flatMap enc).toArray ++ Builtin.zeroCells z.cells c ++ Builtin.zeroCells z.cells (grownCap w (xs.length + c) cap E - (xs.length + c))) E)) ?_ ⟨rfl, rfl, rfl, by simp, fun k hk _ => Below.heap_alloc w.drew _ k hk⟩ (.inr rfl))
  · simp only [execOp, resolve, invoke, builtin, Sem.run_bind, Sem.run_pure, Result.andThen_ok, List.map_toArray, List.map_cons, List.map_nil, hA, hX, hrun]
  · have hfl := flat_len' hk xs
    refine ⟨by rw [flat_len' hk], .inr ⟨w.heap.size, _, _, by simp, hB, heap_alloc_new w.drew _, by simpa using hgc, hgm, ?_, ?_⟩⟩
    · simp only [Array.size_append, List.size_toArray, size_zeroCells, hzs, hfl, ← Nat.add_mul]
      congr 1
      omega
    · have e : (Builtin.zeroCells z.cells c).toList = (List.replicate c z0).flatMap enc := zero_flat hkp z0 z.cells hzc (hk z0) c
      simp only [Array.toList_append, e]
      rw [← List.flatMap_append, ← flat_len' hk (xs ++ List.replicate c z0), List.take_left]
/-- What stands behind a place of a block's slice is cleared. -/
theorem L_clearRaw {α : Type} {enc : α → List Value} {X : Operand} {T E k bytes B g cap m lo : Nat} {cur : List Value} (he : Elem P T E k bytes) (v tail : Value) (hv : v = .slice (some ⟨g, 0, none⟩) m cap) (hT : TailOf k m lo v tail) (hraw : Raw w B E k g cap cur) (hlo : lo ≤ m) (hmc : m ≤ cap)
    (hz1 : ∀ z, (P.info? E).bind (·.zero) = some z → ∀ u ∈ z.cells.toList, u.oneCell' = true) (hX : s.ev n X = tail)
    (h : ∀ w' cur', Raw w' B E k g cap cur' → (∀ (a : Nat) (zs : List α), a + zs.length ≤ lo → AtE enc k cur a zs → AtE enc k cur' a zs) → w.grownBy w' (some g) → L r P n ops Q rest (s.put d (.tuple #[])) w') :
    L r P n ops Q (⟨d, .call ⟨.builtin .clear, #[X], #[T]⟩, ty, pos, af, none⟩ :: rest) s w := by
  obtain ⟨i, hq, hks, z, hzz, hzs⟩ : ∃ i, P.info? E = some i ∧ i.size = k ∧ ∃ z, i.zero = some z ∧ z.cells.size = k := by
    have h := he.hi
    cases hq : P.info? E with
    | none => rw [hq] at h; cases h
    | some i =>
      rw [hq] at h
      simp only [Option.map_some, Option.some.injEq, Prod.mk.injEq] at h
      obtain ⟨h1, h2, h3⟩ := h
      cases hz : i.zero with
      | none => rw [hz] at h1; cases h1
      | some z => rw [hz] at h1; exact ⟨i, rfl, h2, z, hz, by simpa using h1⟩
  have hkp : 0 < k := by have := he.hk; simpa using this
  have fin : ∀ w', (Builtin.clear_ #[T] ty #[tail]).run P w = .ok (.tuple #[]) w' → ∀ cur', Raw w' B E k g cap cur' → (∀ (a : Nat) (zs : List α), a + zs.length ≤ lo → AtE enc k cur a zs → AtE enc k cur' a zs) → w.grownBy w' (some g) →
      L r P n ops Q (⟨d, .call ⟨.builtin .clear, #[X], #[T]⟩, ty, pos, af, none⟩ :: rest) s w := fun w' hrun cur' h1 h2 h3 => by
    refine L_val (.tuple #[]) w' (by simp) ?_ (h w' cur' h1 h2 h3)
    simp only [execOp, resolve, invoke, builtin, Sem.run_bind, Sem.run_pure, Result.andThen_ok, List.map_toArray, List.map_cons, List.map_nil, hX, hrun]
  subst hv
  rcases hT with ⟨_, h2, _⟩ | ⟨g', cap', h1, rfl⟩
  · cases h2
  · cases h1
    by_cases hml : m = lo
    · refine fin w ?_ cur hraw (fun _ _ _ h => h) ⟨rfl, rfl, rfl, Nat.le_refl _, fun _ _ _ => rfl⟩
      rw [hml, Nat.sub_self]
      split <;> simp [Builtin.clear_, run_underlying he.ht]
    · rw [if_neg (by omega)] at fin
      have hlen : (Builtin.zeroCells z.cells (m - lo)).toList.length = (m - lo) * k := by rw [Array.length_toList, size_zeroCells, hzs]
      have hf : lo * k + (Builtin.zeroCells z.cells (m - lo)).toList.length ≤ cur.length := by rw [hlen, hraw.size, ← Nat.add_mul]; exact Nat.mul_le_mul_right _ (by omega)
      have hone : ∀ u ∈ (Builtin.zeroCells z.cells (m - lo)).toList, u.oneCell' = true := by
        intro u hu
        have := hz1 z (by rw [hq]; exact hzz)
        simp only [Builtin.zeroCells, Array.toList_map, List.mem_map] at hu
        obtain ⟨j, _, rfl⟩ := hu
        have hlt2 : j % z.cells.size < z.cells.size := Nat.mod_lt _ (by omega)
        rw [getElem!_pos z.cells _ hlt2]
        exact this _ (by simp)
      have hst := run_storeCells_at (P := P) g (lo * k) E (Builtin.zeroCells z.cells (m - lo)).toList 0 cur.toArray w hraw.here (by simpa using hf) hone
      simp only [Nat.add_zero] at hst
      have hrun : (Builtin.clear_ #[T] ty #[.slice (some ⟨g, lo * k, none⟩) (m - lo) (cap - lo)]).run P w = .ok (.tuple #[]) (w.setRow g (putAt k cur lo (Builtin.zeroCells z.cells (m - lo)).toList).toArray) := by
        obtain ⟨j, hj⟩ : ∃ j, m - lo = j + 1 := ⟨m - lo - 1, by omega⟩
        rw [hj] at hst ⊢
        simp [Builtin.clear_, run_underlying he.ht, zeroValue, typeInfo, hq, hzz, hst, putAt]
      exact fin _ hrun _ (hraw.put hf) (fun a zs hb hz => at_lo hz hb (by omega)) (grown_w (wrote_set hraw.here))
theorem Raw.below {w w' : World} {B E k g cap : Nat} {cur : List Value} (h : Raw w B E k g cap cur) (hB : Below w.heap.size w w') : Raw w' B E k g cap cur :=
  ⟨h.base, obj_below h.here hB, h.capm, h.size⟩
/-- The same slices, where only reading is done. -/
theorem Lq_slTot {K : Fm → Prop} {X : Operand} {hi : Operand} {T E k bytes : Nat} (he : Elem P T E k bytes) (v : Value) (g N c tot : Nat) (hv : v = .slice (some ⟨g, 0, none⟩) N c) (hX : s.ev n X = v) (hhi : ∃ kk, s.ev n hi = .int kk tot) (h2 : tot ≤ c)
    (h : Lq P n ops w K rest (s.put d (.slice (some ⟨g, 0, none⟩) tot c))) : Lq P n ops w K (⟨d, .slice T X none (some hi) none, ty, pos, af, none⟩ :: rest) s := by
  subst hv
  obtain ⟨kk, hhi⟩ := hhi
  refine Lq_val _ (fun w' _ => ?_) h
  have hb := sliceB (P := P) (w := w') (len := N) (cap := c) (lo := none) (hi := some (.int kk (tot : Nat))) 0 tot rfl ⟨kk, rfl⟩ (Nat.zero_le _) h2 true
  have e : (if c = 0 then some (⟨g, 0, none⟩ : Addr) else some ((⟨g, 0, none⟩ : Addr).add (0 * k))) = some ⟨g, 0, none⟩ := by
    split
    · rfl
    · rw [add_lit, Nat.zero_mul]
  simp only [execOp, hX, hhi, Instr.sliceAt, Instr.slice, Sem.run_bind, Sem.run_pure, Result.andThen_ok, run_underlying he.ht, hb, run_size he, Option.map_none, Option.map_some, e, Nat.sub_zero]
theorem Lq_slRaw {K : Fm → Prop} {X : Operand} {lo hi : Option Operand} {T E k bytes : Nat} (he : Elem P T E k bytes) (v : Value) (g o N c l hh : Nat) (hv : v = .slice (some ⟨g, o * k, none⟩) N c) (hX : s.ev n X = v)
    (hlo : match lo with | none => l = 0 | some x => ∃ kk, s.ev n x = .int kk l) (hhi : match hi with | none => hh = N | some x => ∃ kk, s.ev n x = .int kk hh) (h1 : l ≤ hh) (h2 : hh ≤ c) (h3 : l < c)
    (h : Lq P n ops w K rest (s.put d (.slice (some ⟨g, (o + l) * k, none⟩) (hh - l) (c - l)))) : Lq P n ops w K (⟨d, .slice T X lo hi none, ty, pos, af, none⟩ :: rest) s := by
  subst hv
  refine Lq_val _ (fun w' _ => ?_) h
  have hb := sliceB (P := P) (w := w') (len := N) (cap := c) (lo := lo.map (s.ev n)) (hi := hi.map (s.ev n)) l hh (by cases lo <;> exact hlo) (by cases hi <;> exact hhi) h1 h2 true
  have e : (if c = l then some (⟨g, o * k, none⟩ : Addr) else some ((⟨g, o * k, none⟩ : Addr).add (l * k))) = some ⟨g, (o + l) * k, none⟩ := by
    rw [if_neg (by omega), add_lit, Nat.add_mul]
  simp only [execOp, hX, Instr.sliceAt, Instr.slice, Sem.run_bind, Sem.run_pure, Result.andThen_ok, run_underlying he.ht, hb, run_size he, Option.map_none, Option.map_some, e]
theorem Lq_aggne {K : Fm → Prop} {t yt : TypeId} {X Y : Operand} (xs ys : List Value) (b : Bool) (hx : s.ev n X = .agg xs.toArray) (hy : s.ev n Y = .agg ys.toArray) (hm : P.eqGuardType P.depth t = false)
    (hq : ∀ w, (Op.equalIn 10000 t (.agg xs.toArray) (.agg ys.toArray)).run P w = .ok b w)
    (ht : b = false → Lq P n ops w K rest (s.put d (.bool true))) (hf : b = true → Lq P n ops w K rest (s.put d (.bool false))) : Lq P n ops w K (⟨d, .binOp .neq t X Y yt, ty, pos, af, none⟩ :: rest) s := by
  have hg : ∀ w, (eqGuard .neq t X Y (.agg xs.toArray) (.agg ys.toArray)).run P w = .ok () w := fun w => run_eqGuard_agg (P := P) w .neq t X Y xs.toArray ys.toArray hm
  have hb : ∀ w, (binOp .neq t (.agg xs.toArray) (.agg ys.toArray)).run P w = .ok (.bool (!b)) w := fun w => by
    have hb := run_neq_struct (P := P) w t xs.toArray ys.toArray
    rw [hq, Result.andThen_ok] at hb
    exact hb
  refine Lq_bin _ _ _ hx hy hg hb ?_
  cases b with
  | true => exact hf rfl
  | false => exact ht rfl
/-- Two truth values held against one another. -/
theorem L_bEq {t yt : TypeId} {X Y : Operand} (a b : Bool) (hX : s.ev n X = .bool a) (hY : s.ev n Y = .bool b) (hr : ∀ c e : Bool, (binOp .eql t (.bool c) (.bool e)).run P w = .ok (.bool (decide (c = e))) w)
    (ht : a = b → L r P n ops Q rest (s.put d (.bool true)) w) (hf : a ≠ b → L r P n ops Q rest (s.put d (.bool false)) w) : L r P n ops Q (⟨d, .binOp .eql t X Y yt, ty, pos, af, none⟩ :: rest) s w := by
  refine L_bin _ _ _ hX hY (by unfold eqGuard; cases a <;> rfl) (hr a b) ?_
  by_cases h : a = b
  · rw [decide_eq_true h]; exact ht h
  · rw [decide_eq_false h]; exact hf h
theorem L_bNe {t yt : TypeId} {X Y : Operand} (a b : Bool) (hX : s.ev n X = .bool a) (hY : s.ev n Y = .bool b) (hr : ∀ c e : Bool, (binOp .neq t (.bool c) (.bool e)).run P w = .ok (.bool (!decide (c = e))) w)
    (ht : a ≠ b → L r P n ops Q rest (s.put d (.bool true)) w) (hf : a = b → L r P n ops Q rest (s.put d (.bool false)) w) : L r P n ops Q (⟨d, .binOp .neq t X Y yt, ty, pos, af, none⟩ :: rest) s w := by
  refine L_bin _ _ _ hX hY (by unfold eqGuard; cases a <;> rfl) (hr a b) ?_
  by_cases h : a = b
  · rw [decide_eq_true h]; exact hf h
  · rw [decide_eq_false h]; exact ht h
theorem Lq_bEq {K : Fm → Prop} {t yt : TypeId} {X Y : Operand} (a b : Bool) (hX : s.ev n X = .bool a) (hY : s.ev n Y = .bool b) (hr : ∀ (c e : Bool) (w : World), (binOp .eql t (.bool c) (.bool e)).run P w = .ok (.bool (decide (c = e))) w)
    (ht : a = b → Lq P n ops w K rest (s.put d (.bool true))) (hf : a ≠ b → Lq P n ops w K rest (s.put d (.bool false))) : Lq P n ops w K (⟨d, .binOp .eql t X Y yt, ty, pos, af, none⟩ :: rest) s := by
  refine Lq_bin _ _ _ hX hY (fun _ => by unfold eqGuard; cases a <;> rfl) (hr a b) ?_
  by_cases h : a = b
  · rw [decide_eq_true h]; exact ht h
  · rw [decide_eq_false h]; exact hf h
/-- Two slices in two blocks do not overlap. -/
theorem L_overlaps {X Y : Operand} {ats : Array TypeId} {T R E k bytes f : Nat} {fn : Func} (he : Elem P T E k bytes) (hf : P.funcs[f]? = some fn) (hname : (fn.name == "runtime.NumGoroutine") = false) (hb : fn.body.isNone = true) (hn : Extern.findNext fn = none) (hfind : Extern.find fn = some (Extern.SlicesOverlaps.overlaps #[T, T] #[R]))
    {ga gb Ea Eb ka kb Ba Bb capa capb : Nat} {cura curb : List Value} (oa la ca ob lb cb : Nat) (ha : Raw w Ba Ea ka ga capa cura) (hbr : Raw w Bb Eb kb gb capb curb) (hne : ga ≠ gb) (hpos : 0 < curb.length)
    (hX : s.ev n X = .slice (some ⟨ga, oa, none⟩) la ca) (hY : s.ev n Y = .slice (some ⟨gb, ob, none⟩) lb cb)
    (h : L r P n ops Q rest (s.put d (.bool false)) w) : L r P n ops Q (⟨d, .call ⟨.value (.func f), #[X, Y], ats⟩, ty, pos, af, none⟩ :: rest) s w := by
  have hrun := Lib.run_overlaps_apart (P := P) w T R E he.ht k (fun _ => run_size he) ⟨ga, oa, none⟩ ⟨gb, ob, none⟩ la ca lb cb hne Ea Eb cura.length curb.length ha.shape hbr.shape (by omega) (ha.frozen _) (ha.frozen _)
  refine L_val (.bool false) w (by simp) ?_ h
  have e0 : s.ev n (.func f) = .func (.func f) #[] #[] := rfl
  simp [execOp, resolve, invoke, e0, hX, hY, Deferred.ofValue, run_callFunc_extern hf hname hb hn hfind, hrun]
end ops
end Go.FK
