/- PTwP: mirrored twice; a text as the row of its characters; a text and its mirrored text, character by character (PTwo, FKac and PPla in one). My own text. -/
import Derived.Test.YtjdcmeoiommglaaDoorPTxt
import Derived.Test.YtjdcmeoiommglaaDoorFKe
import Derived.Laws.IdiomStrings
set_option linter.unusedVariables false
namespace Go.FK
open Go Go.RowKit
theorem getD_right {a b : List UInt8} (i : Nat) : (a ++ b).getD (i + a.length) 0 = b.getD i 0 := by
  rw [List.getD_eq_getElem?_getD, List.getD_eq_getElem?_getD, List.getElem?_append_right (by omega), Nat.add_sub_cancel]
/-! ### what a byte says with those behind it -/
def isC (c : UInt8) : Bool := decide (c.toNat / 64 = 2)
def cpT (l : List UInt8) : List UInt8 := l.takeWhile isC
theorem dec_rt (a b : List UInt8) (q : Nat) : dec (a ++ b) (q + a.length) = dec b q := by
  rw [dec_at', dec_at', List.length_append, getD_right, show q + a.length + 1 = (q + 1) + a.length by omega, getD_right, show q + a.length + 2 = (q + 2) + a.length by omega, getD_right, show q + a.length + 3 = (q + 3) + a.length by omega, getD_right, show a.length + b.length - (q + a.length) = b.length - q by omega]
/-- The first three places of a list, a place that is none being no continuation. -/
def pl (l : List UInt8) (i : Nat) : Option Nat := match l[i]? with | some c => if isC c = true then some c.toNat else none | none => none
theorem pl_cp : ∀ (l : List UInt8), (∀ i, pl l i = none ∨ True) ∧ pl l 0 = pl (cpT l) 0
  | [] => ⟨fun _ => .inr trivial, rfl⟩
  | c :: l => ⟨fun _ => .inr trivial, by
      unfold cpT pl
      by_cases h : isC c = true
      · rw [List.takeWhile_cons, if_pos h]; rfl
      · rw [List.takeWhile_cons, if_neg h]; simp [h]⟩
/-- What decoding sees of the bytes behind the first. -/
def seen3 (l : List UInt8) : Option Nat × Option Nat × Option Nat :=
  match l with
  | [] => (none, none, none)
  | c :: l => if isC c = true then (some c.toNat, match l with
      | [] => (none, none)
      | d :: l => if isC d = true then (some d.toNat, match l with
          | [] => none
          | e :: _ => if isC e = true then some e.toNat else none) else (none, none)) else (none, none, none)
theorem seen_cp (l : List UInt8) : seen3 l = seen3 (cpT l) := by
  unfold cpT
  match l with
  | [] => rfl
  | [c] => by_cases h : isC c = true <;> simp [seen3, List.takeWhile_cons, h]
  | [c, d] => by_cases h : isC c = true <;> by_cases h2 : isC d = true <;> simp [seen3, List.takeWhile_cons, h, h2]
  | c :: d :: e :: l => by_cases h : isC c = true <;> by_cases h2 : isC d = true <;> by_cases h3 : isC e = true <;> simp [seen3, List.takeWhile_cons, h, h2, h3]
def decS (b : Nat) (o : Option Nat × Option Nat × Option Nat) : Nat × Nat :=
  Lib.decodeN (match o with | (none, _, _) => 1 | (some _, none, _) => 2 | (some _, some _, none) => 3 | (some _, some _, some _) => 4) b (o.1.getD 0) (o.2.1.getD 0) (o.2.2.getD 0)
theorem isC_iff {c : UInt8} : isC c = true ↔ c.toNat / 64 = 2 := by unfold isC; simp
theorem isC_niff {c : UInt8} : isC c = false ↔ ¬ c.toNat / 64 = 2 := by unfold isC; simp
/-- Decoding hangs on the byte and on what is seen behind it. -/
theorem dec_seen (b : UInt8) (l : List UInt8) : dec (b :: l) 0 = decS b.toNat (seen3 l) := by
  rw [dec_at']
  match l with
  | [] =>
    unfold decS seen3 Lib.decodeN
    simp
  | [c] =>
    cases h : isC c with
    | true => simp [decS, seen3, h]
    | false =>
      have h' := isC_niff.1 h
      simp [decS, seen3, h, Lib.decodeN, h']
  | [c, d] =>
    cases h : isC c with
    | false =>
      have h' := isC_niff.1 h
      simp [decS, seen3, h, Lib.decodeN, h']
    | true =>
      cases h2 : isC d with
      | true => simp [decS, seen3, h, h2]
      | false =>
        have h' := isC_niff.1 h2
        simp [decS, seen3, h, h2, Lib.decodeN, h']
  | c :: d :: e :: l =>
    cases h : isC c with
    | false =>
      have h' := isC_niff.1 h
      simp [decS, seen3, h, Lib.decodeN, h']
    | true =>
      cases h2 : isC d with
      | false =>
        have h' := isC_niff.1 h2
        simp [decS, seen3, h, h2, Lib.decodeN, h']
      | true =>
        cases h3 : isC e with
        | false =>
          have h' := isC_niff.1 h3
          simp [decS, seen3, h, h2, h3, Lib.decodeN, h']
        | true =>
          simp [decS, seen3, h, h2, h3, Lib.decodeN]
theorem dec_cp {b : UInt8} {l m : List UInt8} (h : cpT l = cpT m) : dec (b :: l) 0 = dec (b :: m) 0 := by
  rw [dec_seen, dec_seen, seen_cp l, seen_cp m, h]
/-! ### a character written is read -/
theorem u8n (n : Nat) (h : n < 256) : (UInt8.ofNat n).toNat = n := by rw [UInt8.toNat_ofNat']; omega
theorem dec_enc {r : Int} (h : scalarB r = true) (t : List UInt8) : ((dec (encL [r] ++ t) 0).1 : Int) = r ∧ (dec (encL [r] ++ t) 0).2 = (encL [r]).length := by
  obtain ⟨n, rfl⟩ : ∃ n : Nat, r = n := ⟨r.toNat, by simp [scalarB] at h; omega⟩
  have h2 : n ≤ 1114111 ∧ (n < 55296 ∨ 57343 < n) := by simp [scalarB] at h; omega
  rw [dec_at', enc_ok h rfl]
  split
  · rename_i h1
    simp only [List.cons_append, List.nil_append, List.getD_cons_zero, u8n n (by omega), List.length_cons, List.length_nil]
    unfold Lib.decodeN
    rw [if_pos h1]; exact ⟨rfl, rfl⟩
  · split
    · rename_i h0 h1
      simp only [List.cons_append, List.nil_append, Nat.zero_add, List.getD_cons_zero, List.getD_cons_succ, u8n (192 + n / 64) (by omega), u8n (128 + n % 64) (by omega), List.length_cons, List.length_nil]
      unfold Lib.decodeN
      rw [if_neg (by omega), if_pos (by omega), if_pos (by omega)]
      refine ⟨?_, rfl⟩
      simp only; omega
    · split
      · rename_i h0 h3 h1
        simp only [List.cons_append, List.nil_append, Nat.zero_add, List.getD_cons_zero, List.getD_cons_succ, u8n (224 + n / 4096) (by omega), u8n (128 + n / 64 % 64) (by omega), u8n (128 + n % 64) (by omega), List.length_cons, List.length_nil]
        unfold Lib.decodeN
        rw [if_neg (by omega), if_neg (by omega), if_pos (by omega), if_pos (by omega)]
        refine ⟨?_, rfl⟩
        simp only; omega
      · rename_i h0 h3 h1
        simp only [List.cons_append, List.nil_append, Nat.zero_add, List.getD_cons_zero, List.getD_cons_succ, u8n (240 + n / 262144) (by omega), u8n (128 + n / 4096 % 64) (by omega), u8n (128 + n / 64 % 64) (by omega), u8n (128 + n % 64) (by omega), List.length_cons, List.length_nil]
        unfold Lib.decodeN
        rw [if_neg (by omega), if_neg (by omega), if_neg (by omega), if_pos (by omega), if_pos (by omega)]
        refine ⟨?_, rfl⟩
        simp only; omega
/-! ### a text as its characters' bytes -/
abbrev Pce := List UInt8 × Nat
def catP (l : List Pce) : List UInt8 := l.flatMap (·.1)
theorem catP_cons (x : Pce) (l : List Pce) : catP (x :: l) = x.1 ++ catP l := by unfold catP; rw [List.flatMap_cons]
def decOK : List Pce → Prop
  | [] => True
  | x :: l => x.1 ≠ [] ∧ dec (x.1 ++ catP l) 0 = (x.2, x.1.length) ∧ decOK l
def at0 : Nat → List Pce → List (Nat × Nat × Nat)
  | _, [] => []
  | p, x :: l => (p, x.1.length, x.2) :: at0 (p + x.1.length) l
theorem chars_at : ∀ (l : List Pce) (pre : List UInt8), decOK l → charsFrom (pre ++ catP l) pre.length = at0 pre.length l
  | [], pre, _ => by rw [charsFrom_end (by unfold catP; simp)]; rfl
  | x :: l, pre, h => by
    obtain ⟨h1, h2, h3⟩ := h
    have hp : 0 < x.1.length := List.length_pos_iff.2 h1
    have hd : dec (pre ++ catP (x :: l)) pre.length = (x.2, x.1.length) := by
      have := dec_rt pre (catP (x :: l)) 0
      rw [Nat.zero_add] at this
      rw [this, catP_cons]; exact h2
    rw [charsFrom_step (by rw [catP_cons, List.length_append, List.length_append]; omega), hd, at0]
    congr 1
    have ih := chars_at l (pre ++ x.1) h3
    rw [List.length_append, List.append_assoc, ← catP_cons] at ih
    exact ih
theorem cut_at0 (s : List UInt8) : ∃ l : List Pce, catP l = s ∧ decOK l := by
  have key : ∀ (n : Nat) (s : List UInt8), s.length ≤ n → ∃ l : List Pce, catP l = s ∧ decOK l := by
    intro n
    induction n with
    | zero => intro s h; exact ⟨[], by rw [List.eq_nil_of_length_eq_zero (by omega : s.length = 0)]; rfl, trivial⟩
    | succ n ih =>
      intro s h
      by_cases hs : s.length = 0
      · exact ⟨[], by rw [List.eq_nil_of_length_eq_zero hs]; rfl, trivial⟩
      · have h1 := dec_pos s 0
        have h2 := dec_fits s 0 (by omega)
        obtain ⟨l, hl, hd⟩ := ih (s.drop (dec s 0).2) (by rw [List.length_drop]; omega)
        have ht : (s.take (dec s 0).2).length = (dec s 0).2 := by rw [List.length_take]; omega
        refine ⟨(s.take (dec s 0).2, (dec s 0).1) :: l, ?_, ?_, ?_, hd⟩
        · rw [catP_cons, hl, List.take_append_drop]
        · intro e; have e2 : s.take (dec s 0).2 = [] := e; rw [e2] at ht; simp at ht; omega
        · rw [hl, List.take_append_drop, ht]
  exact key s.length s (Nat.le_refl _)
/-- A character that is none. -/
def wrP (x : Pce) : Bool := decide (x.2 = 65533 ∧ x.1.length ≠ 3)
theorem dec0 {a b : List UInt8} {r w : Nat} (h : dec (a ++ b) 0 = (r, w)) (hw : a.length = w) (ha : a ≠ []) : wrongC (0, (dec (a ++ b) 0).2, (dec (a ++ b) 0).1) = wrP (a, r) := by
  rw [h, ← hw]; rfl
/-- A right character's bytes are what its number is written as. -/
theorem ok_enc {x : Pce} {l : List Pce} (h : decOK (x :: l)) (hw : wrP x = false) : x.1 = encL [(x.2 : Int)] := by
  obtain ⟨h1, h2, h3⟩ := h
  have hp : 0 < x.1.length := List.length_pos_iff.2 h1
  have he := enc_dec (s := x.1 ++ catP l) (p := 0) (by rw [List.length_append]; omega) (by rw [dec0 h2 rfl h1]; exact hw)
  rw [h2] at he
  simp only [List.drop_zero] at he
  rw [he, List.take_left' rfl]
theorem wr_bytes {x : Pce} {l : List Pce} (h : decOK (x :: l)) (hw : wrP x = true) : ∃ b, x.1 = [b] := by
  obtain ⟨h1, h2, h3⟩ := h
  have hp : 0 < x.1.length := List.length_pos_iff.2 h1
  have := wrong_one (s := x.1 ++ catP l) (p := 0) (by rw [dec0 h2 rfl h1]; exact hw)
  rw [h2] at this
  exact List.length_eq_one_iff.1 this.2
/-- The first byte of a right character is no continuation. -/
theorem enc_head {r : Int} {a : UInt8} {t : List UInt8} (h : encL [r] = a :: t) : isC a = false := by
  rw [isC_niff]
  rcases Bool.eq_false_or_eq_true (scalarB r) with hs | hs
  · obtain ⟨n, rfl⟩ : ∃ n : Nat, r = n := ⟨r.toNat, by simp [scalarB] at hs; omega⟩
    have h2 : n ≤ 1114111 ∧ (n < 55296 ∨ 57343 < n) := by simp [scalarB] at hs; omega
    rw [enc_ok hs rfl] at h
    have u : ∀ m, m < 256 → (UInt8.ofNat m).toNat = m := fun m hm => by rw [UInt8.toNat_ofNat']; omega
    split at h
    · rw [← (List.cons.inj h).1, u _ (by omega)]; omega
    · split at h
      · rw [← (List.cons.inj h).1, u _ (by omega)]; omega
      · split at h
        · rw [← (List.cons.inj h).1, u _ (by omega)]; omega
        · rw [← (List.cons.inj h).1, u _ (by omega)]; omega
  · have hw : widthN r = 0 := by unfold widthN; rw [if_neg (by rw [hs]; decide)]
    rw [← seq0 hw] at h
    rw [← (List.cons.inj h).1]; decide
theorem enc_ne (r : Int) : encL [r] ≠ [] := by
  intro e
  rcases Bool.eq_false_or_eq_true (scalarB r) with hs | hs
  · have h := dec_enc hs []
    rw [e] at h
    have := dec_pos ([] ++ []) 0
    rw [h.2] at this; exact absurd this (by decide)
  · have hw : widthN r = 0 := by unfold widthN; rw [if_neg (by rw [hs]; decide)]
    rw [← seq0 hw] at e; cases e
/-! ### mirrored -/
def fixN (t : Int) : Nat := if scalarB t = true then t.toNat else 65533
theorem dec_encF (t : Int) (l : List UInt8) : dec (encL [t] ++ l) 0 = (fixN t, (encL [t]).length) := by
  have key : ∀ (r : Int) (n : Nat), scalarB r = true → r = (n : Int) → dec (encL [r] ++ l) 0 = (n, (encL [r]).length) := by
    intro r n h e
    have h2 := dec_enc h l
    have h3 : (dec (encL [r] ++ l) 0).1 = n := by have := h2.1; omega
    rw [← h3, ← h2.2]
  unfold fixN
  by_cases hs : scalarB t = true
  · rw [if_pos hs]
    exact key t t.toNat hs (by simp [scalarB] at hs; omega)
  · rw [if_neg hs]
    have hw : widthN t = 0 := by unfold widthN; rw [if_neg hs]
    have e : encL [t] = encL [(65533 : Int)] := by rw [← seq0 hw, enc_fffd]
    rw [e]
    exact key 65533 65533 (by decide) rfl
def mpP (M : List (Int × Int)) (x : Pce) : Pce := if wrP x = false ∧ (ofM M (x.2 : Int)).2 = true then (encL [(ofM M (x.2 : Int)).1], fixN (ofM M (x.2 : Int)).1) else x
theorem cp_app {a : UInt8} {t l : List UInt8} (h : isC a = false) : cpT ((a :: t) ++ l) = [] := by
  unfold cpT; rw [List.cons_append, List.takeWhile_cons, if_neg (by rw [h]; decide)]
theorem cp_enc (r : Int) (l : List UInt8) : cpT (encL [r] ++ l) = [] := by
  cases hq : encL [r] with
  | nil => exact absurd hq (enc_ne r)
  | cons a t => exact cp_app (enc_head hq)
theorem cp_map (M : List (Int × Int)) : ∀ l : List Pce, decOK l → cpT (catP (l.map (mpP M))) = cpT (catP l)
  | [], _ => rfl
  | x :: l, h => by
    have ih := cp_map M l h.2.2
    rw [List.map_cons, catP_cons, catP_cons]
    cases hw : wrP x with
    | true =>
      have e : mpP M x = x := by unfold mpP; rw [if_neg (by rw [hw]; simp)]
      obtain ⟨b, hb⟩ := wr_bytes h hw
      rw [e, hb]
      show cpT (b :: catP (l.map (mpP M))) = cpT (b :: catP l)
      unfold cpT at ih ⊢
      rw [List.takeWhile_cons, List.takeWhile_cons, ih]
    | false =>
      have ho := ok_enc h hw
      rw [ho, cp_enc]
      unfold mpP
      split
      · exact cp_enc _ _
      · rw [ho]; exact cp_enc _ _
theorem map_OK (M : List (Int × Int)) : ∀ l : List Pce, decOK l → decOK (l.map (mpP M))
  | [], _ => trivial
  | x :: l, h => by
    have ih := map_OK M l h.2.2
    rw [List.map_cons]
    cases hw : wrP x with
    | true =>
      have e : mpP M x = x := by unfold mpP; rw [if_neg (by rw [hw]; simp)]
      obtain ⟨b, hb⟩ := wr_bytes h hw
      rw [e]
      refine ⟨h.1, ?_, ih⟩
      have h2 := h.2.1
      rw [hb] at h2 ⊢
      rw [← h2]
      exact dec_cp (cp_map M l h.2.2)
    | false =>
      unfold mpP
      split
      · exact ⟨enc_ne _, dec_encF _ _, ih⟩
      · have ho := ok_enc h hw
        refine ⟨h.1, ?_, ih⟩
        have h2 := h.2.1
        rw [ho] at h2 ⊢
        rw [dec_encF] at h2 ⊢
        exact h2
/-- The characters of a text, by its pieces. -/
theorem chF_P {l : List Pce} (h : decOK l) : chF (catP l) = (at0 0 l).map fulC := by
  unfold chF
  have := chars_at l [] h
  rw [List.nil_append] at this
  exact congrArg (List.map fulC) this
def cntP (M : List (Int × Int)) (l : List Pce) : Nat := (l.filter fun x => decide (wrP x = false ∧ (ofM M (x.2 : Int)).2 = true)).length
theorem txt_P (M : List (Int × Int)) : ∀ (l : List Pce) (pre : List UInt8), txtF M (pre ++ catP l) ((at0 pre.length l).map fulC) = (catP (l.map (mpP M)), cntP M l)
  | [], pre => rfl
  | x :: l, pre => by
    have ih := txt_P M l (pre ++ x.1)
    rw [List.length_append, List.append_assoc, ← catP_cons] at ih
    rw [at0, List.map_cons, txtF, ih, List.map_cons, catP_cons (mpP M x) (l.map (mpP M))]
    have hown : (List.take (pre.length + x.1.length) (pre ++ catP (x :: l))).drop pre.length = x.1 := by
      rw [catP_cons, ← List.append_assoc, List.take_left' (by rw [List.length_append]), List.drop_left' rfl]
    have hf : fulC (pre.length, x.1.length, x.2) = (pre.length, x.1.length, (x.2 : Int), !wrP x) := rfl
    have hc : chT M (pre ++ catP (x :: l)) (fulC (pre.length, x.1.length, x.2)) = ((mpP M x).1, if wrP x = false ∧ (ofM M (x.2 : Int)).2 = true then 1 else 0) := by
      rw [hf]
      unfold chT mpP
      by_cases hq : wrP x = false ∧ (ofM M (x.2 : Int)).2 = true
      · rw [if_pos ⟨by simp [hq.1], hq.2⟩, if_pos hq, if_pos hq]
      · rw [if_neg (fun e => hq ⟨by simpa using e.1, e.2⟩), if_neg hq, if_neg hq]
        simp only; rw [hown]
    rw [hc]
    refine Prod.ext rfl ?_
    show (if wrP x = false ∧ (ofM M (x.2 : Int)).2 = true then 1 else 0) + cntP M l = cntP M (x :: l)
    unfold cntP
    rw [List.filter_cons]
    by_cases hq : wrP x = false ∧ (ofM M (x.2 : Int)).2 = true
    · rw [if_pos hq, if_pos (decide_eq_true hq), List.length_cons]; omega
    · rw [if_neg hq, if_neg (by simpa using hq)]; omega
theorem mtext_P {l : List Mir} {ps : List Pce} (h : decOK ps) : mtextF l (catP ps) = (catP (ps.map (mpP (firstM l))), cntP (firstM l) ps) := by
  unfold mtextF
  rw [chF_P h]
  have := txt_P (firstM l) ps []
  exact this
/-! ### a list that leads back -/
theorem chkB_ok (all : List Mir) : ∀ (l : List Mir) (i : Nat), (chkB all i l).2 = 0 → ∀ m ∈ l, backB all m = true
  | [], _, _ => fun m hm => by cases hm
  | x :: l, i, h => by
    rw [chkB] at h
    by_cases hb : backB all x = true
    · rw [if_pos hb] at h
      intro m hm
      rcases List.mem_cons.1 hm with rfl | hm
      · exact hb
      · exact chkB_ok all l _ h m hm
    · rw [if_neg hb] at h; simp at h
theorem chkA_self : ∀ (l : List Mir) (seen : List Int) (i : Nat), (chkA seen i l).2 = 0 → ∀ m ∈ l, (0 ≤ m.2.1 ∧ m.2.1 ≤ 1114111) ∧ m.2.1 ≠ m.2.2.1
  | [], _, _, _ => fun m hm => by cases hm
  | x :: l, seen, i, h => by
    rw [chkA] at h
    by_cases h1 : ptB x.2.1 = false ∨ ptB x.2.2.1 = false
    · rw [if_pos h1] at h; simp at h
    · rw [if_neg h1] at h
      by_cases h2 : x.2.1 = x.2.2.1
      · rw [if_pos h2] at h; simp at h
      · rw [if_neg h2] at h
        split at h
        · simp at h
        · intro m hm
          rcases List.mem_cons.1 hm with rfl | hm
          · have h3 : ptB m.2.1 = true := by cases hq : ptB m.2.1 with | true => rfl | false => exact absurd (.inl hq) h1
            exact ⟨of_decide_eq_true h3, h2⟩
          · exact chkA_self l _ _ h m hm
theorem mcheck_A {l : List Mir} (h : (mcheckF l).2 = 0) : (chkA [] 0 l).2 = 0 ∧ (chkB l 0 l).2 = 0 := by
  unfold mcheckF at h
  by_cases hA : (chkA [] 0 l).2 ≠ 0
  · rw [if_pos hA] at h; exact absurd h hA
  · rw [if_neg hA] at h; exact ⟨by omega, h⟩
section
variable {l : List Mir} (hc : (mcheckF l).2 = 0) {r : Int}
include hc in
theorem of_mem {m : Mir} (hm : m ∈ l) : ofF l m.2.1 = (m.2.2.1, true) := by
  unfold ofF
  rw [mget_nodup (prs_nodup (mcheck_A hc).1) (List.mem_map.2 ⟨m, hm, rfl⟩ : (m.2.1, m.2.2.1) ∈ prs l)]
theorem of_true (h : (ofF l r).2 = true) : ∃ m ∈ l, m.2.1 = r ∧ (ofF l r).1 = m.2.2.1 := by
  unfold ofF at h ⊢
  cases hq : mget (prs l) r with
  | none => rw [hq] at h; cases h
  | some x =>
    obtain ⟨m, hm, e⟩ := List.mem_map.1 (mget_some hq)
    simp only [Prod.mk.injEq] at e
    exact ⟨m, hm, e.1, e.2.symm⟩
theorem of_false (h : (ofF l r).2 = false) : (ofF l r).1 = r := by
  unfold ofF at h ⊢
  cases hq : mget (prs l) r with
  | none => rfl
  | some x => rw [hq] at h; cases h
include hc in
/-- What a number is led to leads back. -/
theorem of_two (h : (ofF l r).2 = true) : ofF l (ofF l r).1 = (r, true) ∧ (ofF l r).1 ≠ r ∧ (∃ m ∈ l, m.2.1 = r) ∧ ∃ m ∈ l, m.2.1 = (ofF l r).1 := by
  obtain ⟨m, hm, e1, e2⟩ := of_true h
  have hb := chkB_ok l l 0 (mcheck_A hc).2 m hm
  obtain ⟨x, hx, e⟩ := List.any_eq_true.1 hb
  have e := of_decide_eq_true e
  refine ⟨?_, ?_, ⟨m, hm, e1⟩, x, hx, by rw [e2, e.1]⟩
  · rw [e2, ← e.1, of_mem hc hx, e.2, e1]
  · rw [e2, ← e1]
    exact fun q => (chkA_self l [] 0 (mcheck_A hc).1 m hm).2 q.symm
include hc in
theorem of_back (r : Int) : (ofF l (ofF l r).1).1 = r := by
  cases h : (ofF l r).2 with
  | true => rw [(of_two hc h).1]
  | false => rw [of_false h]; exact of_false h
include hc in
theorem of_isY (h : (ofF l r).2 = true) (e : (ofF l r).1 = r) : False := (of_two hc h).2.1 e
theorem of_isN (h : (ofF l r).2 = false) (e : (ofF l r).1 ≠ r) : False := e (of_false h)
end
def noSur (l : List Mir) (i : Nat) : Prop := ∀ m ∈ l.take i, m.2.1 < 55296 ∨ 57343 < m.2.1
theorem noSur_zero (l : List Mir) : noSur l 0 := fun m hm => by rw [List.take_zero] at hm; cases hm
theorem noSur_succ {l : List Mir} {i : Nat} {x : Mir} (h : noSur l i) (hx : l[i]? = some x) (hs : x.2.1 < 55296 ∨ 57343 < x.2.1) : noSur l (i + 1) := by
  intro m hm
  rw [take_at hx] at hm
  rcases List.mem_append.1 hm with hm | hm
  · exact h m hm
  · rw [List.mem_singleton.1 hm]; exact hs
theorem ok_all : ∀ {ps : List Pce}, decOK ps → ∀ x ∈ ps, wrP x = false → x.1 = encL [(x.2 : Int)]
  | [], _, x, hx, _ => by cases hx
  | y :: ps, h, x, hx, hw => by
    rcases List.mem_cons.1 hx with rfl | hx
    · exact ok_enc h hw
    · exact ok_all h.2.2 x hx hw
theorem wr_enc {t : Int} (hs : scalarB t = true) : wrP (encL [t], fixN t) = false := by
  unfold wrP fixN
  rw [if_pos hs]
  apply decide_eq_false
  rintro ⟨e, e2⟩
  have h0 : 0 ≤ t := by simp [scalarB] at hs; omega
  have e3 : t = 65533 := by simp only at e; omega
  subst e3
  exact e2 rfl
theorem mp_two {l : List Mir} (hc : (mcheckF l).2 = 0) (hs : ∀ m ∈ l, m.2.1 < 55296 ∨ 57343 < m.2.1) {x : Pce} (hx : wrP x = false → x.1 = encL [(x.2 : Int)]) :
    mpP (firstM l) (mpP (firstM l) x) = x ∧ (wrP (mpP (firstM l) x) = false ∧ (ofM (firstM l) ((mpP (firstM l) x).2 : Int)).2 = true ↔ wrP x = false ∧ (ofM (firstM l) (x.2 : Int)).2 = true) := by
  by_cases hq : wrP x = false ∧ (ofM (firstM l) (x.2 : Int)).2 = true
  · have hi : (ofF l (x.2 : Int)).2 = true := by rw [← ofM_of]; exact hq.2
    obtain ⟨h1, h2, ⟨m, hm, em⟩, m', hm', em'⟩ := of_two hc hi
    have sc : ∀ m ∈ l, scalarB m.2.1 = true := fun m hm => by
      have a := (chkA_self l [] 0 (mcheck_A hc).1 m hm).1
      have b := hs m hm
      simp [scalarB]; omega
    have st : scalarB (ofF l (x.2 : Int)).1 = true := by rw [← em']; exact sc m' hm'
    have sr : scalarB (x.2 : Int) = true := by rw [← em]; exact sc m hm
    have e1 : mpP (firstM l) x = (encL [(ofF l (x.2 : Int)).1], fixN (ofF l (x.2 : Int)).1) := by unfold mpP; rw [if_pos hq, ofM_of]
    have hf : ((fixN (ofF l (x.2 : Int)).1 : Nat) : Int) = (ofF l (x.2 : Int)).1 := by
      unfold fixN; rw [if_pos st]
      have : 0 ≤ (ofF l (x.2 : Int)).1 := by simp [scalarB] at st; omega
      omega
    have hw := wr_enc st
    rw [e1]
    refine ⟨?_, ?_⟩
    · unfold mpP
      simp only
      rw [hf, ofM_of, h1, if_pos ⟨hw, rfl⟩]
      have hr : fixN (x.2 : Int) = x.2 := by unfold fixN; rw [if_pos sr]; omega
      rw [hr, ← hx hq.1]
    · simp only
      rw [hf, ofM_of, h1]
      exact ⟨fun _ => hq, fun _ => ⟨hw, rfl⟩⟩
  · have e1 : mpP (firstM l) x = x := by unfold mpP; rw [if_neg hq]
    rw [e1]
    exact ⟨e1, Iff.rfl⟩
theorem twice_text {l : List Mir} (hc : (mcheckF l).2 = 0) {i : Nat} (hs : noSur l i) (hi : l.length ≤ i) (s : List UInt8) : mtextF l (mtextF l s).1 = (s, (mtextF l s).2) := by
  obtain ⟨ps, rfl, hd⟩ := cut_at0 s
  have hs' : ∀ m ∈ l, m.2.1 < 55296 ∨ 57343 < m.2.1 := fun m hm => hs m (by rw [List.take_of_length_le hi]; exact hm)
  rw [mtext_P hd, mtext_P (map_OK _ ps hd)]
  have hx := ok_all hd
  have h1 : (ps.map (mpP (firstM l))).map (mpP (firstM l)) = ps := by
    rw [List.map_map]
    conv => rhs; rw [← List.map_id ps]
    exact List.map_congr_left fun x hm => (mp_two hc hs' (hx x hm)).1
  have h2 : cntP (firstM l) (ps.map (mpP (firstM l))) = cntP (firstM l) ps := by
    unfold cntP
    rw [List.filter_map, List.length_map]
    congr 1
    exact List.filter_congr fun x hm => decide_eq_decide.2 (mp_two hc hs' (hx x hm)).2
  rw [h1, h2]
end Go.FK

namespace Go.FK
open Go Go.RowKit
def chrsN (x : List UInt8) : Nat → Nat → List Int
  | 0, _ => []
  | b + 1, p => if p < x.length then ((dec x p).1 : Int) :: chrsN x b (p + (dec x p).2) else []
def chrsL (x : List UInt8) : List Int := chrsN x x.length 0
theorem chrsN_len (x : List UInt8) : ∀ b p, (chrsN x b p).length ≤ b
  | 0, _ => Nat.le_refl _
  | b + 1, p => by
    unfold chrsN
    split
    · have := chrsN_len x b (p + (dec x p).2)
      simp only [List.length_cons]; omega
    · exact Nat.zero_le _
theorem chrsL_len (x : List UInt8) : (chrsL x).length ≤ x.length := chrsN_len x _ _
theorem runesFrom_eq (x : List UInt8) : ∀ b p acc, Conv.runesFrom ⟨x.toArray⟩ b p acc = acc ++ ((chrsN x b p).map (Value.int .i32)).toArray
  | 0, p, acc => by simp [Conv.runesFrom, chrsN]
  | b + 1, p, acc => by
    have hsz : (⟨x.toArray⟩ : ByteArray).size = x.length := by simp [ByteArray.size]
    unfold Conv.runesFrom chrsN
    rw [hsz]
    by_cases hp : p < x.length
    · rw [if_pos hp, if_pos hp]
      show Conv.runesFrom ⟨x.toArray⟩ b (p + (dec x p).2) (acc.push (.int .i32 (Int.ofNat (dec x p).1))) = _
      rw [runesFrom_eq x b]
      simp
    · rw [if_neg hp, if_neg hp]; simp
theorem encI32_flat (xs : List Int) : xs.flatMap encI32 = xs.map (Value.int .i32) := by
  induction xs with
  | nil => rfl
  | cons x xs ih => rw [List.flatMap_cons, ih]; rfl
section
variable {r : Option Nat} {P : Program} {n : Nat} {Q : Post} {s : Fm} {w : World} {ops : Array Oper} {rest : List Oper}
variable {d : Option Tmp} {ty : TypeId} {pos : String} {af : Array Edge}
theorem L_toRunes {a b E : Nat} {X : Operand} (x : List UInt8) (ha : P.underlying a = some .string) (hb : P.underlying b = some (.slice E)) (hE : P.underlying E = some (.int .i32))
    (hl : x.length ≤ 1073741824) (B : Nat) (hB : B ≤ w.heap.size) (hx : s.ev n X = S x)
    (h : ∀ v' w', Row w' B E 1 encI32 v' (chrsL x) → w.grownBy w' (Value.slice none 0 0).ownBlock → (v'.ownBlock = (Value.slice none 0 0).ownBlock ∨ v'.ownBlock = some w.heap.size) → L r P n ops Q rest (s.put d v') w') :
    L r P n ops Q (⟨d, .convert a b X, ty, pos, af, none⟩ :: rest) s w := by
  have hr : Conv.runesFrom ⟨x.toArray⟩ (⟨x.toArray⟩ : ByteArray).size 0 #[] = ((chrsL x).map (Value.int .i32)).toArray := by
    rw [runesFrom_eq]
    have hsz : (⟨x.toArray⟩ : ByteArray).size = x.length := by simp [ByteArray.size]
    rw [hsz]; simp [chrsL]
  have hln := chrsL_len x
  have hrun := run_runes_of_string (P := P) w a b E ⟨x.toArray⟩ ha hb hE (by rw [hr]; simp; omega)
  rw [hr] at hrun
  have hsize : (((chrsL x).map (Value.int .i32)).toArray).size = (chrsL x).length := by simp
  rw [hsize] at hrun
  have hge := grownCap_ge w (chrsL x).length 0 E
  have hle := grownCap_le_maxLen w (chrsL x).length 0 E (by unfold maxLen; omega)
  have key : ∀ v' w', (convert a b (.string ⟨x.toArray⟩)).run P w = .ok v' w' → Row w' B E 1 encI32 v' (chrsL x) → w.grownBy w' (Value.slice none 0 0).ownBlock → (v'.ownBlock = (Value.slice none 0 0).ownBlock ∨ v'.ownBlock = some w.heap.size) →
      L r P n ops Q (⟨d, .convert a b X, ty, pos, af, none⟩ :: rest) s w := fun v' w' h0 h1 h2 h3 =>
    L_val v' w' (by simp) (by simp only [execOp, hx, Sem.run_bind, S, h0, Result.andThen_ok, Sem.run_pure]) (h v' w' h1 h2 h3)
  refine key _ _ hrun ?_ ?_ (.inr rfl)
  · refine ⟨by rw [encI32_flat]; simp, .inr ⟨w.heap.size, grownCap w (chrsL x).length 0 E, ((chrsL x).map (Value.int .i32)).toArray ++ Array.replicate (grownCap w (chrsL x).length 0 E - (chrsL x).length) (.int .i32 0), rfl, hB, ?_, hge, hle, ?_, ?_⟩⟩
    · show (w.heap.push _)[w.heap.size]? = _
      simp
    · simp; omega
    · rw [encI32_flat]; simp
  · refine ⟨rfl, rfl, rfl, ?_, fun k hk _ => ?_⟩
    · show _ ≤ (w.heap.push _).size
      simp
    · show (w.heap.push _)[k]? = _
      simp [Array.getElem?_push, Nat.ne_of_lt hk]
end
end Go.FK

namespace Go.FK
open Go Go.RowKit
theorem cat_len (M : List (Int × Int)) : ∀ ps : List Pce, decOK ps → (catP (ps.map (mpP M))).length ≤ 4 * (catP ps).length
  | [], _ => by simp [catP]
  | x :: l, h => by
    have ih := cat_len M l h.2.2
    have hx : 0 < x.1.length := List.length_pos_iff.2 h.1
    rw [List.map_cons, catP_cons, catP_cons, List.length_append, List.length_append]
    have h1 : (mpP M x).1.length ≤ 4 * x.1.length := by
      unfold mpP
      split
      · have := encL1_len (ofM M (x.2 : Int)).1
        simp only; omega
      · omega
    omega
theorem mtext_len (l : List Mir) (s : List UInt8) : (mtextF l s).1.length ≤ 4 * s.length := by
  obtain ⟨ps, rfl, hd⟩ := cut_at0 s
  rw [mtext_P hd]
  exact cat_len _ ps hd
theorem chrsN_at : ∀ (ps : List Pce) (pre : List UInt8) (b : Nat), decOK ps → (catP ps).length ≤ b → chrsN (pre ++ catP ps) b pre.length = ps.map fun x => (x.2 : Int)
  | [], pre, b, _, _ => by
    cases b with
    | zero => rfl
    | succ b => unfold chrsN; rw [if_neg (by simp [catP])]; rfl
  | x :: l, pre, b, h, hb => by
    obtain ⟨h1, h2, h3⟩ := h
    have hp : 0 < x.1.length := List.length_pos_iff.2 h1
    have hd : dec (pre ++ catP (x :: l)) pre.length = (x.2, x.1.length) := by
      have := dec_rt pre (catP (x :: l)) 0
      rw [Nat.zero_add] at this
      rw [this, catP_cons]; exact h2
    rw [catP_cons, List.length_append] at hb
    cases b with
    | zero => omega
    | succ b =>
      unfold chrsN
      rw [if_pos (by rw [catP_cons, List.length_append, List.length_append]; omega), hd, List.map_cons]
      congr 1
      have ih := chrsN_at l (pre ++ x.1) b h3 (by omega)
      rw [List.length_append, List.append_assoc, ← catP_cons] at ih
      exact ih
theorem chrsL_P {ps : List Pce} (h : decOK ps) : chrsL (catP ps) = ps.map fun x => (x.2 : Int) := by
  have := chrsN_at ps [] (catP ps).length h (Nat.le_refl _)
  exact this
theorem runes_mir {l : List Mir} {ps : List Pce} (h : decOK ps) : chrsL (mtextF l (catP ps)).1 = ps.map fun x => ((mpP (firstM l) x).2 : Int) := by
  rw [mtext_P h, chrsL_P (map_OK _ ps h), List.map_map]; rfl
theorem chrs_same (l : List Mir) (s : List UInt8) : (chrsL s).length = (chrsL (mtextF l s).1).length := by
  obtain ⟨ps, rfl, hd⟩ := cut_at0 s
  rw [chrsL_P hd, runes_mir hd]; simp
/-- What a changed character was, and is. -/
theorem mp_ch {l : List Mir} {x : Pce} (h : (x.2 : Int) ≠ ((mpP (firstM l) x).2 : Int)) :
    (wrP x = false ∧ (ofM (firstM l) (x.2 : Int)).2 = true) ∧ (ofF l (x.2 : Int)).2 = true ∧ ((ofF l (x.2 : Int)).1 = ((mpP (firstM l) x).2 : Int) ∨ ((mpP (firstM l) x).2 : Int) = 65533) := by
  by_cases hq : wrP x = false ∧ (ofM (firstM l) (x.2 : Int)).2 = true
  · refine ⟨hq, by rw [← ofM_of]; exact hq.2, ?_⟩
    unfold mpP
    rw [if_pos hq, ofM_of]
    simp only
    unfold fixN
    split
    · next hs => left; have : 0 ≤ (ofF l (x.2 : Int)).1 := by simp [scalarB] at hs; omega
                 omega
    · exact .inr rfl
  · exact absurd (by unfold mpP; rw [if_neg hq]) h
section
variable {l : List Mir} {s : List UInt8} {i c : Nat} {x y : Int}
theorem at_both {ps : List Pce} (hd : decOK ps) (hx : (chrsL (catP ps))[i]? = some x) (hy : (chrsL (mtextF l (catP ps)).1)[i]? = some y) : ∃ p, ps[i]? = some p ∧ x = (p.2 : Int) ∧ y = ((mpP (firstM l) p).2 : Int) := by
  rw [chrsL_P hd, List.getElem?_map] at hx
  rw [runes_mir hd, List.getElem?_map] at hy
  cases hp : ps[i]? with
  | none => rw [hp] at hx; cases hx
  | some p =>
    rw [hp] at hx hy
    simp only [Option.map_some, Option.some.injEq] at hx hy
    exact ⟨p, rfl, hx.symm, hy.symm⟩
theorem pl_is (hx : (chrsL s)[i]? = some x) (hy : (chrsL (mtextF l s).1)[i]? = some y) (h : x ≠ y) : (ofF l x).2 = true ∧ ((ofF l x).1 = y ∨ y = 65533) := by
  obtain ⟨ps, rfl, hd⟩ := cut_at0 s
  obtain ⟨p, _, rfl, rfl⟩ := at_both hd hx hy
  exact (mp_ch h).2
def chI (l : List Mir) (s : List UInt8) (i c : Nat) : Prop := ∃ ps, catP ps = s ∧ decOK ps ∧ c ≤ cntP (firstM l) (ps.take i)
theorem ch_zero (l : List Mir) (s : List UInt8) : chI l s 0 0 := by
  obtain ⟨ps, e, hd⟩ := cut_at0 s
  exact ⟨ps, e, hd, Nat.zero_le _⟩
theorem cnt_succ (M : List (Int × Int)) {ps : List Pce} {p : Pce} (hp : ps[i]? = some p) : cntP M (ps.take (i + 1)) = cntP M (ps.take i) + if wrP p = false ∧ (ofM M (p.2 : Int)).2 = true then 1 else 0 := by
  rw [List.take_add_one, hp]
  unfold cntP
  rw [List.filter_append, List.length_append]
  congr 1
  by_cases h : wrP p = false ∧ (ofM M (p.2 : Int)).2 = true
  · rw [if_pos h]; simp [h]
  · rw [if_neg h]
    simp only [Option.toList_some, List.filter_cons, List.filter_nil]
    rw [if_neg (by simpa using h)]; rfl
theorem ch_same (hx : (chrsL s)[i]? = some x) (h : chI l s i c) : chI l s (i + 1) c := by
  obtain ⟨ps, rfl, hd, hc⟩ := h
  rw [chrsL_P hd, List.getElem?_map] at hx
  cases hp : ps[i]? with
  | none => rw [hp] at hx; cases hx
  | some p => exact ⟨ps, rfl, hd, by rw [cnt_succ _ hp]; omega⟩
theorem ch_new (hx : (chrsL s)[i]? = some x) (hy : (chrsL (mtextF l s).1)[i]? = some y) (hn : x ≠ y) (h : chI l s i c) : chI l s (i + 1) (c + 1) := by
  obtain ⟨ps, rfl, hd, hc⟩ := h
  obtain ⟨p, hp, rfl, rfl⟩ := at_both hd hx hy
  exact ⟨ps, rfl, hd, by rw [cnt_succ _ hp, if_pos (mp_ch hn).1]; omega⟩
theorem ch_end (h : chI l s i c) (hi : (chrsL s).length ≤ i) : c ≤ (mtextF l s).2 := by
  obtain ⟨ps, rfl, hd, hc⟩ := h
  rw [chrsL_P hd, List.length_map] at hi
  rw [List.take_of_length_le hi] at hc
  rw [mtext_P hd]; exact hc
end
end Go.FK
