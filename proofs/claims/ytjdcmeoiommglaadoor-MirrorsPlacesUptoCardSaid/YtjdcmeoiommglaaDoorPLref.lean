/- Plain laws of chapter 3's reference: its characters, its pieces, its cuts. -/
import Derived.Test.YtjdcmeoiommglaaDoorPLpcs
set_option linter.unusedVariables false
namespace Go.FK
open Go Go.RowKit
theorem set_here {α : Type} {l : List α} {i : Nat} {x y : α} (h : l[i]? = some x) : (l.set i y)[i]? = some y := by
  obtain ⟨h1, _⟩ := List.getElem?_eq_some_iff.1 h
  simp [h1]
/-! ### characters -/
def encChar (x : Nat × Nat × Int × Bool) : List Value := [.int .i64 (x.1 : Nat), .int .i64 (x.2.1 : Nat), .int .i32 x.2.2.1, .bool x.2.2.2]
def rawC (x : Nat × Nat × Nat) : Nat × Nat × Int × Bool := (x.1, 0, (x.2.2 : Int), false)
def fulC (x : Nat × Nat × Nat) : Nat × Nat × Int × Bool := (x.1, x.2.1, (x.2.2 : Int), !wrongC x)
def chF (s : List UInt8) : List (Nat × Nat × Int × Bool) := (charsFrom s 0).map fulC
theorem chF_len (s : List UInt8) : (chF s).length = (charsFrom s 0).length := by unfold chF; rw [List.length_map]
theorem chF_at {s : List UInt8} {i : Nat} {x : Nat × Nat × Int × Bool} (h : (chF s)[i]? = some x) : ∃ c, (charsFrom s 0)[i]? = some c ∧ x = fulC c := by
  unfold chF at h
  rw [List.getElem?_map] at h
  cases hc : (charsFrom s 0)[i]? with
  | none => rw [hc] at h; cases h
  | some c => rw [hc] at h; cases h; exact ⟨c, rfl, rfl⟩
/-- Characters stand one behind the other. -/
theorem charsN_next (s : List UInt8) : ∀ (n p i : Nat) (c : Nat × Nat × Nat), s.length - p ≤ n → (charsN s n p)[i]? = some c →
    c.1 + c.2.1 ≤ s.length ∧ 1 ≤ c.2.1 ∧ p ≤ c.1 ∧ c.2.2 ≤ 2147483647 ∧ (∀ d, (charsN s n p)[i + 1]? = some d → d.1 = c.1 + c.2.1) ∧ ((charsN s n p).length = i + 1 → c.1 + c.2.1 = s.length) := by
  intro n
  induction n with
  | zero => intro p i c _ h; simp [charsN] at h
  | succ n ih =>
    intro p i c hn h
    rw [charsN] at h ⊢
    by_cases hp : p < s.length
    · rw [if_pos hp] at h ⊢
      have h1 := dec_pos s p
      have h2 := dec_fits s p hp
      have h3 := dec_le s p
      cases i with
      | zero =>
        simp at h; subst h
        refine ⟨h2, h1, Nat.le_refl _, h3, ?_, ?_⟩
        · intro d hd
          simp only [Nat.zero_add, List.getElem?_cons_succ] at hd
          cases n with
          | zero => simp [charsN] at hd
          | succ n =>
            rw [charsN] at hd
            split at hd
            · simp at hd; subst hd; rfl
            · simp at hd
        · intro hl
          simp only [List.length_cons] at hl
          by_cases hq : p + (dec s p).2 < s.length
          · cases n with
            | zero => omega
            | succ n => rw [charsN, if_pos hq] at hl; simp at hl
          · simp only; omega
      | succ i =>
        simp only [List.getElem?_cons_succ] at h
        obtain ⟨a, b, e, f, g, k⟩ := ih _ i c (by omega) h
        refine ⟨a, b, by omega, f, ?_, ?_⟩
        · intro d hd; simp only [List.getElem?_cons_succ] at hd; exact g d hd
        · intro hl; simp only [List.length_cons] at hl; exact k (by omega)
    · rw [if_neg hp] at h; simp at h
theorem chars_next {s : List UInt8} {i : Nat} {c : Nat × Nat × Nat} (h : (charsFrom s 0)[i]? = some c) :
    c.1 + c.2.1 ≤ s.length ∧ 1 ≤ c.2.1 ∧ c.2.2 ≤ 2147483647 ∧ (∀ d, (charsFrom s 0)[i + 1]? = some d → d.1 = c.1 + c.2.1) ∧ ((charsFrom s 0).length = i + 1 → c.1 + c.2.1 = s.length) := by
  obtain ⟨a, b, _, f, g, k⟩ := charsN_next s _ _ i c (Nat.le_refl _) h
  exact ⟨a, b, f, g, k⟩
theorem raw_step {s : List UInt8} {p : Nat} {acc : List (Nat × Nat × Int × Bool)} {c : Int} (h : p < s.length) (hc : c = ((dec s p).1 : Nat)) (hi : acc ++ (charsFrom s p).map rawC = (charsFrom s 0).map rawC) :
    (acc ++ [(p, 0, c, false)]) ++ (charsFrom s (p + (dec s p).2)).map rawC = (charsFrom s 0).map rawC := by
  rw [← hi, charsFrom_step h, hc]; simp [rawC]
theorem raw_end {s : List UInt8} {p : Nat} {acc : List (Nat × Nat × Int × Bool)} (h : s.length ≤ p) (hi : acc ++ (charsFrom s p).map rawC = (charsFrom s 0).map rawC) : acc = ((charsFrom s 0).take 0).map fulC ++ ((charsFrom s 0).drop 0).map rawC := by
  rw [charsFrom_end h] at hi; simpa using hi
theorem mix_len {s : List UInt8} {i : Nat} {acc : List (Nat × Nat × Int × Bool)} (h : acc = ((charsFrom s 0).take i).map fulC ++ ((charsFrom s 0).drop i).map rawC) : acc.length = (charsFrom s 0).length := by
  rw [h]; simp; omega
theorem mix_at {s : List UInt8} {i j : Nat} {acc : List (Nat × Nat × Int × Bool)} {x : Nat × Nat × Int × Bool} (h : acc = ((charsFrom s 0).take i).map fulC ++ ((charsFrom s 0).drop i).map rawC) (hx : acc[j]? = some x) (hj : i ≤ j) :
    ∃ c, (charsFrom s 0)[j]? = some c ∧ x = rawC c ∧ x.1 = c.1 ∧ x.2.2.1 = (c.2.2 : Nat) := by
  have hlt : j < acc.length := (List.getElem?_eq_some_iff.1 hx).1
  rw [mix_len h] at hlt
  rw [h, List.getElem?_append_right (by simp; omega)] at hx
  rw [List.getElem?_map, List.getElem?_drop] at hx
  have e : i + (j - (((charsFrom s 0).take i).map fulC).length) = j := by simp; omega
  rw [e] at hx
  cases hc : (charsFrom s 0)[j]? with
  | none => rw [hc] at hx; cases hx
  | some c => rw [hc] at hx; cases hx; exact ⟨c, rfl, rfl, rfl, rfl⟩
theorem mix_set {s : List UInt8} {i : Nat} {acc : List (Nat × Nat × Int × Bool)} {c : Nat × Nat × Nat} {a b : Nat × Nat × Int × Bool} (h : acc = ((charsFrom s 0).take i).map fulC ++ ((charsFrom s 0).drop i).map rawC) (hc : (charsFrom s 0)[i]? = some c) (hb : b = fulC c) :
    (acc.set i a).set i b = ((charsFrom s 0).take (i + 1)).map fulC ++ ((charsFrom s 0).drop (i + 1)).map rawC := by
  have hlt : i < (charsFrom s 0).length := (List.getElem?_eq_some_iff.1 hc).1
  rw [List.set_set, h, drop_some hc, List.map_cons, hb]
  have e : (((charsFrom s 0).take i).map fulC).length = i := by simp; omega
  rw [List.set_append_right _ _ (by omega), e, Nat.sub_self, List.set_cons_zero, List.take_succ_eq_append_getElem hlt, (List.getElem?_eq_some_iff.1 hc).2]
  simp
theorem fulC_mk {c : Nat × Nat × Nat} {w : Nat} {r : Int} {b : Bool} (hw : w = c.2.1) (hr : r = (c.2.2 : Nat)) (hb : b = !wrongC c) : (c.1, w, r, b) = fulC c := by rw [hw, hr, hb]; rfl
theorem mix_set3 {s : List UInt8} {i e : Nat} {acc : List (Nat × Nat × Int × Bool)} {x a : Nat × Nat × Int × Bool} {b : Bool} (h : acc = ((charsFrom s 0).take i).map fulC ++ ((charsFrom s 0).drop i).map rawC) (hx : acc[i]? = some x)
    (he : (∃ y, acc[i + 1]? = some y ∧ e = y.1) ∨ (acc.length ≤ i + 1 ∧ e = s.length)) (hb : b = decide (x.2.2.1 ≠ 65533 ∨ e - x.1 = 3)) :
    (acc.set i a).set i (x.1, e - x.1, x.2.2.1, b) = ((charsFrom s 0).take (i + 1)).map fulC ++ ((charsFrom s 0).drop (i + 1)).map rawC := by
  obtain ⟨c, hc, _, h1, h2⟩ := mix_at h hx (Nat.le_refl _)
  obtain ⟨n1, n2, n3, n4, n5⟩ := chars_next hc
  have hl := mix_len h
  have hlt : i < acc.length := (List.getElem?_eq_some_iff.1 hx).1
  have hw : e - x.1 = c.2.1 := by
    rcases he with ⟨y, hy, rfl⟩ | ⟨hy, rfl⟩
    · obtain ⟨d, hd, _, h3, _⟩ := mix_at h hy (Nat.le_succ _)
      have := n4 d hd
      omega
    · have := n5 (by omega)
      omega
  refine mix_set h hc ?_
  rw [h1]
  refine fulC_mk (by rw [← h1]; exact hw) h2 ?_
  rw [hb, hw, h2]
  unfold wrongC
  by_cases q1 : c.2.2 = 65533 <;> by_cases q2 : c.2.1 = 3 <;> simp [q1, q2] <;> omega
theorem mix_done {s : List UInt8} {i : Nat} {acc : List (Nat × Nat × Int × Bool)} (h : acc = ((charsFrom s 0).take i).map fulC ++ ((charsFrom s 0).drop i).map rawC) (hi : acc.length ≤ i) : acc = chF s := by
  have hl := mix_len h
  rw [h, List.take_of_length_le (by omega), List.drop_eq_nil_of_le (by omega)]; simp [chF]
theorem chF_range {s : List UInt8} {i : Nat} {x : Nat × Nat × Int × Bool} (h : (chF s)[i]? = some x) : -2147483648 ≤ x.2.2.1 ∧ x.2.2.1 ≤ 2147483647 := by
  obtain ⟨c, hc, rfl⟩ := chF_at h
  obtain ⟨_, _, h3, _⟩ := chars_next hc
  simp only [fulC]; omega
/-! ### the checks -/
theorem ck_end {s : List UInt8} {i : Nat} (h : (chF s).length ≤ i) (hi : chkL ((charsFrom s 0).drop i) i = chkF s) : (0, 0) = chkF s := by
  rw [chF_len] at h
  rw [← hi, List.drop_eq_nil_of_le h]; rfl
theorem ck_wide {s : List UInt8} {c : Nat × Nat × Nat} (hc : (charsFrom s 0)[4096]? = some c) (hi : chkL ((charsFrom s 0).drop 4096) 4096 = chkF s) : chkF s = (4096, 32) := by
  rw [← hi, drop_some hc]; rfl
theorem ck_wrong {s : List UInt8} {i : Nat} {c : Nat × Nat × Nat} (hc : (charsFrom s 0)[i]? = some c) (hn : i ≠ 4096) (hw : wrongC c = true) (hi : chkL ((charsFrom s 0).drop i) i = chkF s) : chkF s = (i, 30) := by
  rw [← hi, drop_some hc, chkL, if_neg hn, if_pos hw]
theorem ck_ctl {s : List UInt8} {i : Nat} {c : Nat × Nat × Nat} (hc : (charsFrom s 0)[i]? = some c) (hn : i ≠ 4096) (hw : wrongC c = false) (hx : (c.2.2 < 32 ∧ c.2.2 ≠ 9) ∨ c.2.2 = 127) (hi : chkL ((charsFrom s 0).drop i) i = chkF s) : chkF s = (i, 31) := by
  rw [← hi, drop_some hc, chkL, if_neg hn, hw, if_neg (by simp), if_pos (by simpa [ctlC] using hx)]
theorem ck_on {s : List UInt8} {i : Nat} {c : Nat × Nat × Nat} (hc : (charsFrom s 0)[i]? = some c) (hn : i ≠ 4096) (hw : wrongC c = false) (hx : ¬ ((c.2.2 < 32 ∧ c.2.2 ≠ 9) ∨ c.2.2 = 127)) (hi : chkL ((charsFrom s 0).drop i) i = chkF s) : chkL ((charsFrom s 0).drop (i + 1)) (i + 1) = chkF s := by
  rw [← hi, drop_some hc, chkL, if_neg hn, hw, if_neg (by simp), if_neg (by simpa [ctlC] using hx)]
theorem ck_wide2 {s : List UInt8} {i : Nat} (h : i < (chF s).length) (h4 : i = 4096) (hi : chkL ((charsFrom s 0).drop i) i = chkF s) : chkF s = (4096, 32) := by
  subst h4
  rw [chF_len] at h
  obtain ⟨c, hc⟩ := get_some (charsFrom s 0) 4096 h
  exact ck_wide hc hi
theorem ck_wrongX {s : List UInt8} {i : Nat} {x : Nat × Nat × Int × Bool} (hx : (chF s)[i]? = some x) (hw : (!x.2.2.2) = true) (hn : i ≠ 4096) (hi : chkL ((charsFrom s 0).drop i) i = chkF s) : chkF s = (i, 30) := by
  obtain ⟨c, hc, rfl⟩ := chF_at hx
  exact ck_wrong hc hn (by simpa [fulC] using hw) hi
theorem ck_ctlX {s : List UInt8} {i : Nat} {x : Nat × Nat × Int × Bool} (hx : (chF s)[i]? = some x) (hw : (!x.2.2.2) = false) (hr : (x.2.2.1 < 32 ∧ x.2.2.1 ≠ 9) ∨ x.2.2.1 = 127) (hn : i ≠ 4096) (hi : chkL ((charsFrom s 0).drop i) i = chkF s) : chkF s = (i, 31) := by
  obtain ⟨c, hc, rfl⟩ := chF_at hx
  simp only [fulC] at hr
  exact ck_ctl hc hn (by simpa [fulC] using hw) (by omega) hi
theorem ck_onX {s : List UInt8} {i : Nat} {x : Nat × Nat × Int × Bool} (hx : (chF s)[i]? = some x) (hw : (!x.2.2.2) = false) (hr : ¬ ((x.2.2.1 < 32 ∧ x.2.2.1 ≠ 9) ∨ x.2.2.1 = 127)) (hn : i ≠ 4096) (hi : chkL ((charsFrom s 0).drop i) i = chkF s) : chkL ((charsFrom s 0).drop (i + 1)) (i + 1) = chkF s := by
  obtain ⟨c, hc, rfl⟩ := chF_at hx
  simp only [fulC] at hr
  exact ck_on hc hn (by simpa [fulC] using hw) (by omega) hi
/-! ### pieces, by the reference -/
def encPcN (x : Nat × Nat × Nat) : List Value := [.int .i64 (x.1 : Nat), .int .i64 (x.2.1 : Nat), .int .i64 (x.2.2 : Nat)]
def keepP (p : Nat × Nat × Nat) : Bool := decide (p.1 < p.2.2)
def pcsR (s : List UInt8) : List (Nat × Nat × Nat) := (pcsFrom s (markN s) (markN s)).filter keepP
theorem pr_nl {s : List UInt8} {a i to : Nat} {c : UInt8} {acc : List (Nat × Nat × Nat)} (ha : a ≤ i) (hc : s[i]? = some c) (h : c.toNat = 10) (ht : to = crN s a i) (hi : acc ++ (pcsFrom s a i).filter keepP = pcsR s) :
    (acc ++ [(a, to, i + 1)]) ++ (pcsFrom s (i + 1) (i + 1)).filter keepP = pcsR s := by
  rw [← hi, pcs_nl hc h, List.filter_cons, if_pos (by simp [keepP]; omega), ht]; simp
theorem pr_on {s : List UInt8} {a i : Nat} {c : UInt8} {acc : List (Nat × Nat × Nat)} (hc : s[i]? = some c) (h : c.toNat ≠ 10) (hi : acc ++ (pcsFrom s a i).filter keepP = pcsR s) : acc ++ (pcsFrom s a (i + 1)).filter keepP = pcsR s := by
  rw [← hi, pcs_on hc h]
theorem pr_last {s : List UInt8} {a i : Nat} {acc : List (Nat × Nat × Nat)} (h : s.length ≤ i) (ha : a < s.length) (hi : acc ++ (pcsFrom s a i).filter keepP = pcsR s) : acc ++ [(a, s.length, s.length)] = pcsR s := by
  rw [← hi, pcs_end h, List.filter_cons, if_pos (by simp [keepP]; omega)]; simp
theorem pr_none {s : List UInt8} {a i : Nat} {acc : List (Nat × Nat × Nat)} (h : s.length ≤ i) (ha : s.length ≤ a) (hi : acc ++ (pcsFrom s a i).filter keepP = pcsR s) : acc = pcsR s := by
  rw [← hi, pcs_end h, List.filter_cons, if_neg (by simp [keepP]; omega)]; simp
theorem cr_one {s : List UInt8} {a i : Nat} {c : UInt8} (h : a < i) (hc : s[i - 1]? = some c) (h13 : c.toNat = 13) : i - 1 = crN s a i := by
  unfold crN; rw [if_pos ⟨h, by rw [getD_some hc]; exact UInt8.toNat_inj.1 h13⟩]
theorem cr_not {s : List UInt8} {a i : Nat} {c : UInt8} (hc : s[i - 1]? = some c) (h13 : c.toNat ≠ 13) : i = crN s a i := by
  unfold crN; rw [if_neg]; rintro ⟨_, h⟩; rw [getD_some hc] at h; exact h13 (by rw [h]; rfl)
theorem cr_low {s : List UInt8} {a i : Nat} (h : i ≤ a) : i = crN s a i := by unfold crN; rw [if_neg (by omega)]
theorem mark_yes {s : List UInt8} {a b c : UInt8} (h : 3 ≤ s.length) (h0 : s[0]? = some a) (h1 : s[1]? = some b) (h2 : s[2]? = some c) (e0 : a.toNat = 239) (e1 : b.toNat = 187) (e2 : c.toNat = 191) : 3 = markN s := by
  obtain rfl : a = 239 := UInt8.toNat_inj.1 e0
  obtain rfl : b = 187 := UInt8.toNat_inj.1 e1
  obtain rfl : c = 191 := UInt8.toNat_inj.1 e2
  unfold markN hpB markT
  rcases s with _ | ⟨x, _ | ⟨y, _ | ⟨z, l⟩⟩⟩ <;> simp_all [List.isPrefixOf]
theorem mark_no {s : List UInt8} (h : s.length < 3 ∨ ∃ i c, i < 3 ∧ s[i]? = some c ∧ c.toNat ≠ [239, 187, 191].getD i 0) : 0 = markN s := by
  unfold markN
  rw [if_neg]
  intro hp
  have hl := hp_len (p := markT) hp
  simp only [markT, List.length_cons, List.length_nil] at hl
  rcases h with h | ⟨i, c, h1, h2, h3⟩
  · omega
  · unfold hpB markT at hp
    rcases s with _ | ⟨x, _ | ⟨y, _ | ⟨z, l⟩⟩⟩
    · simp [List.isPrefixOf] at hp
    · simp [List.isPrefixOf] at hp
    · simp [List.isPrefixOf] at hp
    · simp only [List.isPrefixOf, Bool.and_true, Bool.and_eq_true, beq_iff_eq] at hp
      obtain ⟨rfl, rfl, rfl⟩ := hp
      rcases (by omega : i = 0 ∨ i = 1 ∨ i = 2) with rfl | rfl | rfl <;> simp at h2 <;> subst h2 <;> exact h3 rfl
/-! ### cuts and names, by the reference -/
theorem trm_first {a : List UInt8} (h : a = [] ∨ ∃ c, a[0]? = some c ∧ ¬ (c.toNat = 32 ∨ c.toNat = 9)) : a.take (a.length - 1) = [] ∨ ∃ c, (a.take (a.length - 1))[0]? = some c ∧ ¬ (c.toNat = 32 ∨ c.toNat = 9) := by
  rcases h with rfl | ⟨c, hc, hb⟩
  · exact .inl rfl
  · by_cases h1 : a.length - 1 = 0
    · left; rw [h1]; rfl
    · right; exact ⟨c, by rw [List.getElem?_take, if_pos (by omega)]; exact hc, hb⟩
theorem nmb_on {s : List UInt8} {i : Nat} {c : UInt8} (hc : s[i]? = some c) (hr : (65 ≤ c.toNat ∧ c.toNat ≤ 90) ∨ (97 ≤ c.toNat ∧ c.toNat ≤ 122) ∨ (48 ≤ c.toNat ∧ c.toNat ≤ 57) ∨ c.toNat = 95 ∨ c.toNat = 45)
    (hi : (s.drop i).all nmB = s.all nmB) : (s.drop (i + 1)).all nmB = s.all nmB := by
  rw [← hi, drop_some hc, List.all_cons]
  have : nmB c = true := by simpa [nmB] using hr
  rw [this]; simp
theorem nmb_off {s : List UInt8} {i : Nat} {c : UInt8} (hc : s[i]? = some c) (hr : ¬ ((65 ≤ c.toNat ∧ c.toNat ≤ 90) ∨ (97 ≤ c.toNat ∧ c.toNat ≤ 122) ∨ (48 ≤ c.toNat ∧ c.toNat ≤ 57) ∨ c.toNat = 95 ∨ c.toNat = 45))
    (hi : (s.drop i).all nmB = s.all nmB) : nameF s = false := by
  have : nmB c = false := by simpa [nmB] using hr
  unfold nameF
  rw [← hi, drop_some hc, List.all_cons, this]; rfl
theorem hp_take {s p : List UInt8} (h : s.take p.length = p) : hpB s p = true := by
  unfold hpB; rw [List.isPrefixOf_iff_prefix, ← h]; exact List.take_prefix _ _
theorem hp_not {s p : List UInt8} (h : s.length < p.length ∨ s.take p.length ≠ p) : hpB s p = false := by
  cases hb : hpB s p with
  | false => rfl
  | true =>
    have h1 := List.isPrefixOf_iff_prefix.1 hb
    rcases h with h | h
    · have := h1.length_le; omega
    · exact absurd (List.prefix_iff_eq_take.1 h1).symm h
theorem hp_one {s : List UInt8} {c : UInt8} (hc : s[0]? = some c) (h : c.toNat = 64) : hpB s [64] = true := by
  obtain rfl : c = 64 := UInt8.toNat_inj.1 h
  cases s with
  | nil => simp at hc
  | cons x l => obtain rfl : x = 64 := by simpa using hc
                simp [hpB, List.isPrefixOf]
theorem hp_one_not {s : List UInt8} {c : UInt8} (hc : s[0]? = some c) (h : c.toNat ≠ 64) : hpB s [64] = false := by
  cases s with
  | nil => simp at hc
  | cons x l =>
    obtain rfl : x = c := by simpa using hc
    have : x ≠ 64 := fun e => h (by rw [e]; rfl)
    simp [hpB, List.isPrefixOf]; exact fun e => this e.symm
theorem ordF_unt (s : List UInt8) : ordF s = untF 58 ((headF s).drop 1) := cut_unt 58 _
theorem scanR_blank {no : Int} {s : List UInt8} (h : (chkF s).2 = 0) (h1 : headF s = []) (h2 : hpB (noteF s) missT = false) : scanF no s = ((no, 0, [], [], noteF s), 0) := by
  rw [scan_blank h h1 h2, cut_empty h1]
theorem scanR_data {no : Int} {s : List UInt8} (h : (chkF s).2 = 0) (h1 : headF s ≠ []) (h2 : hpB (headF s) [64] = false) : scanF no s = ((no, 1, [], fieldsF (headF s), noteF s), 0) := by
  rw [scan_data h h1 h2, cutF_head]
theorem scanR_order {no : Int} {s : List UInt8} (h : (chkF s).2 = 0) (h2 : hpB (headF s) [64] = true) (h3 : (untF 58 ((headF s).drop 1)).2.2 = true) (h4 : nameF (untF 58 ((headF s).drop 1)).1 = true) :
    scanF no s = ((no, 2, (untF 58 ((headF s).drop 1)).1, fieldsF (untF 58 ((headF s).drop 1)).2.1, noteF s), 0) := by
  rw [← ordF_unt] at *; exact scan_order h h2 h3 h4
theorem scanR_unnamed {no : Int} {s : List UInt8} (h : (chkF s).2 = 0) (h2 : hpB (headF s) [64] = true) (h3 : (untF 58 ((headF s).drop 1)).2.2 = false ∨ nameF (untF 58 ((headF s).drop 1)).1 = false) : scanF no s = (zeroL, 33) := by
  rw [← ordF_unt] at *; exact scan_unnamed h h2 h3
theorem headF_len (s : List UInt8) : (headF s).length ≤ s.length := Nat.le_trans (trm_len _) (cutl_len s [35]).1
theorem noteF_len (s : List UInt8) : (noteF s).length ≤ s.length := Nat.le_trans (trm_len _) (cutl_len s [35]).2
end Go.FK
