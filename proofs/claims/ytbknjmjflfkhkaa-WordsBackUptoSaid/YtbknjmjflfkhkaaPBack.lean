/- Plain laws: names however they are written lead back. -/
import Derived.Test.YtbknjmjflfkhkaaPSep
set_option linter.unusedVariables false
namespace Go.FK
open Go Go.RowKit
def caseF (c k : Nat) : Int :=
  if (k &&& 1 ≠ 0 ∧ 97 ≤ c) ∧ c ≤ 122 then (c : Int) - 32
  else if (k &&& 2 ≠ 0 ∧ 65 ≤ c) ∧ c ≤ 90 then (c : Int) + 32 else c
def lastF (c : Int) (k : Nat) : Int := if k &&& 16 ≠ 0 ∧ c = 95 then 32 else c
def spS (c k : Nat) : List UInt8 := (if k &&& 4 ≠ 0 then [95] else []) ++ (if k &&& 8 ≠ 0 then [45, 194, 160] else []) ++ bytesI [lastF (caseF c k) k]
def howAt (how : List Int) (i : Nat) : Nat := (how.getD i 0).toNat
def spoiltF (name : List UInt8) (how : List Int) : List UInt8 := (List.range name.length).flatMap fun i => spS (name.getD i 0).toNat (howAt how i)
def spoiltTo (name : List UInt8) (how : List Int) (i : Nat) : List UInt8 := (List.range i).flatMap fun i => spS (name.getD i 0).toNat (howAt how i)
theorem spoiltTo_succ {name : List UInt8} {how : List Int} {i : Nat} {x : UInt8} {k : Nat} (hx : name[i]? = some x) (hk : howAt how i = k) : spoiltTo name how (i + 1) = spoiltTo name how i ++ spS x.toNat k := by
  unfold spoiltTo
  rw [List.range_succ, List.flatMap_append, List.flatMap_cons, List.flatMap_nil, List.append_nil, hk]
  have : name.getD i 0 = x := by rw [List.getD_eq_getElem?_getD, hx]; rfl
  rw [this]
theorem howAt_some {how : List Int} {i : Nat} {k : Int} (h : how[i]? = some k) : howAt how i = k.toNat := by
  unfold howAt; rw [List.getD_eq_getElem?_getD, h]; rfl
theorem howAt_none {how : List Int} {i : Nat} (h : how.length ≤ i) : howAt how i = 0 := by
  unfold howAt; rw [List.getD_eq_getElem?_getD, List.getElem?_eq_none h]; rfl
theorem caseF_range {c k : Nat} (hc : c < 128) : 0 ≤ caseF c k ∧ caseF c k < 128 := by
  unfold caseF
  repeat' split
  all_goals omega
theorem lastF_range {c : Int} {k : Nat} (h0 : 0 ≤ c) (h : c < 128) : 0 ≤ lastF c k ∧ lastF c k < 128 := by
  unfold lastF
  split <;> omega
/-- A name's character: a letter or a low line. -/
def letB (c : Nat) : Bool := (decide (65 ≤ c) && decide (c ≤ 90)) || (decide (97 ≤ c) && decide (c ≤ 122)) || c == 95
theorem loose_app (l m : List Int) : looseL (l ++ m) = looseL l ++ looseL m := by simp [looseL]
theorem loose_let {c k : Nat} (h : letB c = true) : looseL [lastF (caseF c k) k] = looseL [(c : Int)] := by
  have hc : (65 ≤ c ∧ c ≤ 90) ∨ (97 ≤ c ∧ c ≤ 122) ∨ c = 95 := by simp [letB] at h; omega
  have d1 : ∀ r : Int, 65 ≤ r → r ≤ 90 → looseL [r] = [r + 32] := by
    intro r h1 h2
    rw [looseL_keep (by simp [dropB, blankB]; omega)]; unfold lowerI; rw [if_pos ⟨h1, h2⟩]; rfl
  have d2 : ∀ r : Int, 97 ≤ r → r ≤ 122 → looseL [r] = [r] := by
    intro r h1 h2
    rw [looseL_keep (by simp [dropB, blankB]; omega)]; unfold lowerI; rw [if_neg (by omega)]; rfl
  have d3 : looseL [(95 : Int)] = [] := by decide
  have d4 : looseL [(32 : Int)] = [] := by decide
  rcases hc with hc | hc | rfl
  · rw [d1 c (by omega) (by omega)]
    unfold caseF
    rw [if_neg (by omega)]
    split
    · rw [lastF, if_neg (by omega), d2 _ (by omega) (by omega)]
    · rw [lastF, if_neg (by omega), d1 _ (by omega) (by omega)]
  · rw [d2 c (by omega) (by omega)]
    unfold caseF
    split
    · rw [lastF, if_neg (by omega), d1 _ (by omega) (by omega)]; congr 1; omega
    · rw [if_neg (by omega), lastF, if_neg (by omega), d2 _ (by omega) (by omega)]
  · have : caseF 95 k = 95 := by unfold caseF; rw [if_neg (by omega), if_neg (by omega)]; rfl
    rw [this]
    unfold lastF
    split
    · rw [d4]; exact d3.symm
    · rfl
def spL (c k : Nat) : List Int := (if k &&& 4 ≠ 0 then [95] else []) ++ (if k &&& 8 ≠ 0 then [45, 160] else []) ++ [lastF (caseF c k) k]
theorem bytes_small {r : Int} (h0 : 0 ≤ r) (h : r < 128) : bytesI [r] = encL [r] := seq1 (by
  have hs : scalarB r = true := by simp only [scalarB, Bool.and_eq_true, Bool.or_eq_true, decide_eq_true_eq]; omega
  unfold widthN; rw [if_pos hs, if_pos h])
theorem spS_enc {c k : Nat} (hc : c < 128) : spS c k = encL (spL c k) := by
  have h1 := caseF_range (k := k) hc
  have h2 := lastF_range (k := k) h1.1 h1.2
  unfold spS spL
  rw [encL_app, encL_app, bytes_small h2.1 h2.2]
  congr 1
  congr 1
  · split <;> rfl
  · split
    · decide
    · rfl
theorem spL_scalar {c k : Nat} (hc : c < 128) : ∀ x ∈ spL c k, scalarB x = true := by
  have h1 := caseF_range (k := k) hc
  have h2 := lastF_range (k := k) h1.1 h1.2
  intro x hx
  have : x = 95 ∨ x = 45 ∨ x = 160 ∨ x = lastF (caseF c k) k := by
    simp only [spL, List.mem_append] at hx
    rcases hx with (hx | hx) | hx
    · split at hx <;> simp at hx; exact .inl hx
    · split at hx <;> simp at hx; rcases hx with hx | hx
      · exact .inr (.inl hx)
      · exact .inr (.inr (.inl hx))
    · simp at hx; exact .inr (.inr (.inr hx))
  simp only [scalarB, Bool.and_eq_true, Bool.or_eq_true, decide_eq_true_eq]
  omega
theorem spL_loose {c k : Nat} (h : letB c = true) : looseL (spL c k) = looseL [(c : Int)] := by
  unfold spL
  rw [loose_app, loose_app, loose_let h]
  have e1 : looseL (if k &&& 4 ≠ 0 then [95] else []) = [] := by split <;> decide
  have e2 : looseL (if k &&& 8 ≠ 0 then [45, 160] else []) = [] := by split <;> decide
  rw [e1, e2]; rfl
theorem encL_flat {α : Type} (f : α → List Int) (l : List α) : encL (l.flatMap f) = l.flatMap fun x => encL (f x) := by
  induction l with
  | nil => rfl
  | cons x l ih => rw [List.flatMap_cons, List.flatMap_cons, encL_app, ih]
theorem loose_flat {α : Type} (f : α → List Int) (l : List α) : looseL (l.flatMap f) = l.flatMap fun x => looseL (f x) := by
  induction l with
  | nil => rfl
  | cons x l ih => rw [List.flatMap_cons, List.flatMap_cons, loose_app, ih]
theorem flatMap_cong {α β : Type} {f g : α → List β} {l : List α} (h : ∀ x ∈ l, f x = g x) : l.flatMap f = l.flatMap g := by
  induction l with
  | nil => rfl
  | cons x l ih => rw [List.flatMap_cons, List.flatMap_cons, h x (by simp), ih (fun y hy => h y (by simp [hy]))]
theorem name_enc (name : List UInt8) (h : ∀ x ∈ name, x.toNat < 128) : name = encL (name.map fun x => (x.toNat : Int)) := by
  induction name with
  | nil => rfl
  | cons x l ih =>
    rw [List.map_cons, encL_cons, ← bytes_small (by omega) (by have := h x (by simp); omega), bytesI_nat, ← ih (fun y hy => h y (by simp [hy]))]
    simp
/-- However a name of letters and low lines is written, its loose form is the same. -/
theorem spoilt_loose (name : List UInt8) (how : List Int) (h : ∀ x ∈ name, letB x.toNat = true) : looseS (spoiltF name how) = looseS name := by
  have hl : ∀ c : Nat, letB c = true → c < 128 := by intro c hc; simp [letB] at hc; omega
  have hmem : ∀ i ∈ List.range name.length, letB (name.getD i 0).toNat = true := by
    intro i hi
    rw [List.mem_range] at hi
    rw [List.getD_eq_getElem?_getD, List.getElem?_eq_getElem hi]
    exact h _ (List.getElem_mem hi)
  have e1 : spoiltF name how = encL ((List.range name.length).flatMap fun i => spL (name.getD i 0).toNat (howAt how i)) := by
    rw [encL_flat]
    unfold spoiltF
    exact flatMap_cong fun i hi => spS_enc (hl _ (hmem i hi))
  have e2 : name = encL (name.map fun x => (x.toNat : Int)) := name_enc name fun x hx => hl _ (h x hx)
  have e3 : name.map (fun x => (x.toNat : Int)) = (List.range name.length).flatMap fun i => [((name.getD i 0).toNat : Int)] := by
    apply List.ext_getElem?
    intro i
    have : ∀ n, (List.range n).flatMap (fun i => [((name.getD i 0).toNat : Int)]) = (List.range n).map fun i => ((name.getD i 0).toNat : Int) := by
      intro n; induction List.range n with
      | nil => rfl
      | cons x l ih => rw [List.flatMap_cons, List.map_cons, ih]; rfl
    rw [this]
    rcases Nat.lt_or_ge i name.length with hi | hi
    · simp [hi]
    · simp [hi]
  have r1 : runesFrom (spoiltF name how) 0 = (List.range name.length).flatMap fun i => spL (name.getD i 0).toNat (howAt how i) := by
    rw [e1]
    refine runes_enc _ ?_
    intro x hx
    obtain ⟨i, hi, hx⟩ := List.mem_flatMap.1 hx
    exact spL_scalar (hl _ (hmem i hi)) x hx
  have r2 : runesFrom name 0 = name.map fun x => (x.toNat : Int) := by
    have := runes_enc (name.map fun x => (x.toNat : Int)) (by
      intro x hx
      obtain ⟨y, hy, rfl⟩ := List.mem_map.1 hx
      have := hl _ (h y hy)
      simp only [scalarB, Bool.and_eq_true, Bool.or_eq_true, decide_eq_true_eq]; omega)
    rw [← e2] at this; exact this
  unfold looseS
  rw [r1, r2, e3, loose_flat, loose_flat]
  congr 1
  exact flatMap_cong fun i hi => spL_loose (hmem i hi)
theorem spS_len (c k : Nat) : (spS c k).length ≤ 5 := by
  unfold spS
  rw [List.length_append, List.length_append]
  have e1 : (if k &&& 4 ≠ 0 then ([95] : List UInt8) else []).length ≤ 1 := by split <;> simp
  have e2 : (if k &&& 8 ≠ 0 then ([45, 194, 160] : List UInt8) else []).length ≤ 3 := by split <;> simp
  have e3 : (bytesI [lastF (caseF c k) k]).length = 1 := by simp [bytesI]
  omega
theorem spoiltTo_len (name : List UInt8) (how : List Int) : ∀ i, (spoiltTo name how i).length ≤ 5 * i
  | 0 => by simp [spoiltTo]
  | i + 1 => by
    have := spoiltTo_len name how i
    unfold spoiltTo at this ⊢
    rw [List.range_succ, List.flatMap_append, List.flatMap_cons, List.flatMap_nil, List.append_nil, List.length_append]
    have := spS_len (name.getD i 0).toNat (howAt how i)
    omega
theorem spoiltF_len (name : List UInt8) (how : List Int) : (spoiltF name how).length ≤ 5 * name.length := spoiltTo_len name how name.length
/-! ### classes and sides hang on the loose form -/
theorem alike_loose {x y : List UInt8} (h : looseS x = looseS y) (z : List UInt8) : alikeB x z = alikeB y z := by unfold alikeB; rw [h]
theorem classN_loose {x y : List UInt8} (h : looseS x = looseS y) : ∀ n c, classN x n c = classN y n c := by
  intro n
  induction n with
  | zero => intro c; rfl
  | succ n ih => intro c; unfold classN; rw [alike_loose h, alike_loose h, ih]
theorem classF_loose {x y : List UInt8} (h : looseS x = looseS y) : classF x = classF y := classN_loose h _ _
theorem sideF_loose {x y : List UInt8} (h : looseS x = looseS y) : sideF x = sideF y := by rw [sideF_eq, sideF_eq, h]
theorem lets_all : (∀ x ∈ shortTab, ∀ y ∈ x, letB y.toNat = true) ∧ (∀ x ∈ longTab, ∀ y ∈ x, letB y.toNat = true) := by decide
theorem short_let (c : Int) : ∀ y ∈ shortS c, letB y.toNat = true := by
  unfold shortS
  split
  · rw [List.getD_eq_getElem?_getD]
    cases h : shortTab[c.toNat]? with
    | none => simp
    | some x => exact lets_all.1 x (List.mem_of_getElem? h)
  · simp
theorem long_let (c : Int) : ∀ y ∈ longS c, letB y.toNat = true := by
  unfold longS
  split
  · rw [List.getD_eq_getElem?_getD]
    cases h : longTab[c.toNat]? with
    | none => simp
    | some x => exact lets_all.2 x (List.mem_of_getElem? h)
  · simp
theorem letter_let (c : Int) : ∀ y ∈ letterS c, letB y.toNat = true := by
  unfold letterS
  repeat' split
  all_goals decide
theorem classes_back : ∀ c : Nat, c < 23 → classF (shortTab.getD (c + 1) []) = (((c + 1 : Nat) : Int), 0) ∧ classF (longTab.getD (c + 1) []) = (((c + 1 : Nat) : Int), 0) := by
  have key : (List.range 23).all (fun c => decide (classF (shortTab.getD (c + 1) []) = (((c + 1 : Nat) : Int), 0)) && decide (classF (longTab.getD (c + 1) []) = (((c + 1 : Nat) : Int), 0))) = true := by kernel_rfl
  intro c hc
  have := List.all_eq_true.1 key c (List.mem_range.2 hc)
  simpa using this
theorem class_back {c : Int} (h1 : 1 ≤ c) (h2 : c ≤ 23) (how : List Int) : toldE c = 0 ∧ classF (spoiltF (shortS c) how) = (c, 0) ∧ classF (spoiltF (longS c) how) = (c, 0) := by
  obtain ⟨n, rfl⟩ : ∃ n : Nat, c = ((n + 1 : Nat) : Int) := ⟨c.toNat - 1, by omega⟩
  obtain ⟨b1, b2⟩ := classes_back n (by omega)
  refine ⟨by unfold toldE; rw [if_pos ⟨h1, h2⟩], ?_, ?_⟩
  · rw [classF_loose (spoilt_loose _ how (short_let _))]
    unfold shortS; rw [if_pos ⟨h1, h2⟩, Int.toNat_natCast]; exact b1
  · rw [classF_loose (spoilt_loose _ how (long_let _))]
    unfold longS; rw [if_pos ⟨h1, h2⟩, Int.toNat_natCast]; exact b2
theorem side_back {c : Int} (h1 : 0 ≤ c) (h2 : c ≤ 2) (how : List Int) : letterE c = 0 ∧ sideF (spoiltF (letterS c) how) = (c, 0) := by
  rw [sideF_loose (spoilt_loose _ how (letter_let _))]
  have e : c = 0 ∨ c = 1 ∨ c = 2 := by omega
  rcases e with rfl | rfl | rfl
  · exact ⟨rfl, by kernel_rfl⟩
  · exact ⟨rfl, by kernel_rfl⟩
  · exact ⟨rfl, by kernel_rfl⟩
/-! ### lists there and back -/
theorem texts_short : ∀ c : Nat, c < 23 → textsOf (shortTab.getD (c + 1) []) = [shortTab.getD (c + 1) []] := by
  have key : (List.range 23).all (fun c => decide (textsOf (shortTab.getD (c + 1) []) = [shortTab.getD (c + 1) []])) = true := by kernel_rfl
  intro c hc
  have := List.all_eq_true.1 key c (List.mem_range.2 hc)
  simpa using this
theorem texts_name {c : Int} (h : validC c = true) : textsOf (shortS c) = [shortS c] ∧ classF (shortS c) = (c, 0) := by
  have h1 : 1 ≤ c ∧ c ≤ 23 := by simpa [validC] using h
  obtain ⟨n, rfl⟩ : ∃ n : Nat, c = ((n + 1 : Nat) : Int) := ⟨c.toNat - 1, by omega⟩
  unfold shortS
  rw [if_pos h1, Int.toNat_natCast]
  exact ⟨texts_short n (by omega), (classes_back n (by omega)).1⟩
theorem texts_join : ∀ (l : List Int), l.all validC = true → textsOf (Lib.join (l.map shortS) [32]) = l.map shortS
  | [], _ => by kernel_rfl
  | [c], h => by
    rw [List.map_cons, List.map_nil, Lib.join_one]
    exact (texts_name (by simpa using h)).1
  | c :: d :: l, h => by
    have h1 : validC c = true := by simp at h; exact h.1
    have h2 : (d :: l).all validC = true := by simp at h ⊢; exact h.2
    have ih := texts_join (d :: l) h2
    have e : Lib.join ((c :: d :: l).map shortS) [32] = shortS c ++ 32 :: Lib.join ((d :: l).map shortS) [32] := by
      rw [List.map_cons, List.map_cons, Lib.join_cons, Lib.join_cons]
      simp [Lib.joinTail]
    rw [e, texts_sep, ih, (texts_name h1).1]; rfl
theorem fold_texts : ∀ (ws : List (Int × List UInt8)) (l acc : List Int), l.all validC = true → ws.map (·.2) = l.map shortS → ws.foldl cstep (acc, 0, 0) = (acc ++ l, 0, 0)
  | [], [], acc, _, _ => by simp
  | [], c :: l, acc, _, h => by simp at h
  | w :: ws, [], acc, _, h => by simp at h
  | w :: ws, c :: l, acc, hv, h => by
    simp only [List.map_cons, List.cons.injEq] at h
    have h1 : validC c = true := by simp at hv; exact hv.1
    have h2 : l.all validC = true := by simp at hv ⊢; exact hv.2
    have hc := (texts_name h1).2
    rw [List.foldl_cons]
    have : cstep (acc, 0, 0) w = (acc ++ [c], 0, 0) := by
      unfold cstep; rw [if_neg (by simp), h.1, hc, if_neg (by simp)]
    rw [this, fold_texts ws l _ h2 h.2]; simp
theorem write_back {l : List Int} (h : (writeF l).2 = 0) : classesF (writeF l).1 = (l, 0, 0) := by
  unfold writeF at h ⊢
  split
  · rename_i hv
    have := fold_texts (wordsOf (Lib.join (l.map shortS) [32])) l [] hv (texts_join l hv)
    simpa [classesF] using this
  · rename_i hv
    rw [if_neg hv] at h; simp at h
theorem write_bad {l : List Int} (h : (writeF l).2 ≠ 0) : (writeF l).2 = 2 ∧ (writeF l).1 = [] := by
  unfold writeF at h ⊢
  split
  · rename_i hv; rw [if_pos hv] at h; simp at h
  · exact ⟨rfl, rfl⟩
theorem write_len (l : List Int) : (writeF l).1.length ≤ 31 * l.length := by
  unfold writeF
  split
  · have := names_len (l := l) (i := l.length) rfl
    rw [List.take_of_length_le (Nat.le_refl _)] at this
    simpa using this
  · simp
end Go.FK
