/- Plain laws of chapter 3: two texts, one behind the other: the lines of both, those of the second counted on. -/
import Derived.Test.YtapndpldphflcaaDoorPLrds
set_option linter.unusedVariables false
namespace Go.FK
open Go Go.RowKit
def shP (n : Nat) (p : Nat × Nat × Nat) : Nat × Nat × Nat := (p.1 + n, p.2.1 + n, p.2.2 + n)
theorem getD_left {a b : List UInt8} {i : Nat} (h : i < a.length) : (a ++ b).getD i 0 = a.getD i 0 := by
  rw [List.getD_eq_getElem?_getD, List.getD_eq_getElem?_getD, List.getElem?_append_left h]
theorem getD_right {a b : List UInt8} (i : Nat) : (a ++ b).getD (i + a.length) 0 = b.getD i 0 := by
  rw [List.getD_eq_getElem?_getD, List.getD_eq_getElem?_getD, List.getElem?_append_right (by omega), Nat.add_sub_cancel]
/-- the second text -/
theorem pcsN_right (a b : List UInt8) : ∀ (n fr i : Nat), fr ≤ i → pcsN (a ++ b) n (fr + a.length) (i + a.length) = (pcsN b n fr i).map (shP a.length)
  | 0, fr, i, h => by simp [pcsN, shP, Nat.add_comm]
  | n + 1, fr, i, h => by
    rw [pcsN, pcsN, getD_right]
    have h1 : i + a.length + 1 = (i + 1) + a.length := by omega
    split
    · rw [h1, pcsN_right a b n (i + 1) (i + 1) (Nat.le_refl _), List.map_cons]
      congr 1
      unfold shP
      simp only [Prod.mk.injEq, true_and]
      refine ⟨?_, trivial⟩
      unfold crN
      by_cases hc : fr < i
      · have e : (a ++ b).getD (i + a.length - 1) 0 = b.getD (i - 1) 0 := by rw [show i + a.length - 1 = (i - 1) + a.length by omega, getD_right]
        rw [e]
        by_cases h13 : b.getD (i - 1) 0 = 13
        · rw [if_pos ⟨by omega, h13⟩, if_pos ⟨hc, h13⟩]; omega
        · rw [if_neg (fun q => h13 q.2), if_neg (fun q => h13 q.2)]
      · rw [if_neg (fun q => hc (by have := q.1; omega)), if_neg (fun q => hc q.1)]
    · rw [h1, pcsN_right a b n fr (i + 1) (by omega)]
/-- the first text, which ends with an end of line -/
theorem pcsN_left (a b : List UInt8) (hl : a.getD (a.length - 1) 0 = 10) : ∀ (n fr i : Nat), n = a.length - i → fr ≤ i → i ≤ a.length → (i = a.length → fr = i) →
    ∃ init, pcsN a n fr i = init ++ [(a.length, a.length, a.length)] ∧ pcsN (a ++ b) (n + b.length) fr i = init ++ pcsN (a ++ b) b.length a.length a.length ∧ ∀ p ∈ init, p.1 ≤ p.2.1 ∧ p.2.1 ≤ a.length
  | 0, fr, i, hn, h1, h2, h3 => by
    obtain rfl : i = a.length := by omega
    obtain rfl := h3 rfl
    exact ⟨[], rfl, by rw [Nat.zero_add]; rfl, fun p hp => by cases hp⟩
  | n + 1, fr, i, hn, h1, h2, h3 => by
    have hi : i < a.length := by omega
    rw [show n + 1 + b.length = (n + b.length) + 1 by omega, pcsN, pcsN, getD_left hi]
    by_cases h10 : a.getD i 0 = 10
    · rw [if_pos h10, if_pos h10]
      obtain ⟨init, e1, e2, e3⟩ := pcsN_left a b hl n (i + 1) (i + 1) (by omega) (Nat.le_refl _) (by omega) (fun _ => rfl)
      have hcr : crN (a ++ b) fr i = crN a fr i := by
        unfold crN
        by_cases hc : fr < i
        · rw [getD_left (by omega)]
        · rw [if_neg (fun q => hc q.1), if_neg (fun q => hc q.1)]
      refine ⟨(fr, crN a fr i, i + 1) :: init, by rw [e1]; rfl, by rw [e2, hcr]; rfl, fun p hp => ?_⟩
      rcases List.mem_cons.1 hp with rfl | hp
      · have := crN_le a fr i; simp only; omega
      · exact e3 p hp
    · rw [if_neg h10, if_neg h10]
      refine pcsN_left a b hl n fr (i + 1) (by omega) (by omega) (by omega) (fun e => ?_)
      exfalso
      apply h10
      rw [show i = a.length - 1 by omega]; exact hl
theorem markN_app {a b : List UInt8} (hn : a ≠ []) (hl : a.getD (a.length - 1) 0 = 10) : markN (a ++ b) = markN a := by
  unfold markN hpB markT
  match a, hn with
  | [x], _ =>
    have : x = 10 := by simpa using hl
    subst this; simp [List.isPrefixOf]
  | [x, y], _ =>
    have : y = 10 := by simpa using hl
    subst this; simp [List.isPrefixOf]
  | x :: y :: z :: l, _ => simp [List.isPrefixOf]
theorem pcsR_app {a b : List UInt8} (hn : a ≠ []) (hl : a.getD (a.length - 1) 0 = 10) (hb : markN b = 0) : pcsR (a ++ b) = pcsR a ++ (pcsR b).map (shP a.length) := by
  unfold pcsR pcsFrom
  rw [markN_app hn hl, hb]
  have hm := mark_len a
  have hm2 : markN a = a.length → markN a = markN a := fun _ => rfl
  obtain ⟨init, e1, e2, _⟩ := pcsN_left a b hl (a.length - markN a) (markN a) (markN a) rfl (Nat.le_refl _) hm (fun _ => rfl)
  rw [List.length_append, show a.length + b.length - markN a = (a.length - markN a) + b.length by omega, e1, e2]
  have e3 := pcsN_right a b b.length 0 0 (Nat.le_refl _)
  rw [Nat.zero_add] at e3
  rw [e3, List.filter_append, List.filter_append]
  have h0 : List.filter keepP [(a.length, a.length, a.length)] = [] := by simp [keepP]
  rw [h0, List.append_nil, Nat.sub_zero]
  congr 1
  rw [List.filter_map]
  congr 1
  apply List.filter_congr
  intro p _
  simp [keepP, shP]
theorem toldR_app (s : List UInt8) : ∀ (l m : List (Nat × Nat × Nat)) (k : Nat), toldR s k (l ++ m) = toldR s k l ++ toldR s (k + l.length) m
  | [], m, k => by simp [toldR]
  | p :: l, m, k => by rw [List.cons_append, toldR, toldR_app s l m (k + 1), toldR, List.length_cons, show k + 1 + l.length = k + (l.length + 1) by omega]; rfl
theorem toldR_left (a b : List UInt8) : ∀ (l : List (Nat × Nat × Nat)) (k : Nat), (∀ p ∈ l, p.2.1 ≤ a.length) → toldR (a ++ b) k l = toldR a k l
  | [], k, h => rfl
  | p :: l, k, h => by
    rw [toldR, toldR, toldR_left a b l (k + 1) (fun q hq => h q (List.mem_cons_of_mem _ hq)), List.take_append_of_le_length (h p List.mem_cons_self)]
def shT (n : Nat) (x : Int × List UInt8) : Int × List UInt8 := (x.1 + n, x.2)
theorem toldR_right (a b : List UInt8) : ∀ (l : List (Nat × Nat × Nat)) (k n : Nat), toldR (a ++ b) (k + n) (l.map (shP a.length)) = (toldR b k l).map (shT n)
  | [], k, n => rfl
  | p :: l, k, n => by
    rw [List.map_cons, toldR, toldR, List.map_cons, show k + n + 1 = (k + 1) + n by omega, toldR_right a b l (k + 1) n]
    congr 1
    unfold shT shP
    simp only [Prod.mk.injEq]
    refine ⟨by omega, ?_⟩
    have e1 : (a ++ b).take (p.2.1 + a.length) = a ++ b.take p.2.1 := by rw [List.take_append, List.take_of_length_le (by omega), Nat.add_sub_cancel]
    rw [e1, List.drop_append, List.drop_of_length_le (by omega), List.nil_append, Nat.add_sub_cancel]
theorem told_app {a b : List UInt8} (hn : a ≠ []) (hl : a.getD (a.length - 1) 0 = 10) (hb : markN b = 0) : toldF (a ++ b) = toldF a ++ (toldF b).map (shT (toldF a).length) := by
  rw [told_ref, told_ref, told_ref, pcsR_app hn hl hb, toldR_app, toldR_left a b (pcsR a) 0 (fun p hp => by
    obtain ⟨i, hi⟩ := List.mem_iff_getElem?.1 hp
    have := pcsR_ok hi; omega), toldR_len, toldR_right]
/-! ### what a line is, by its number -/
def shL (n : Nat) (x : LineD) : LineD := (x.1 + n, x.2)
theorem scan_sh (no : Int) (n : Nat) (s : List UInt8) : (scanF (no + n) s).2 = (scanF no s).2 ∧ ((scanF no s).2 = 0 → (scanF (no + n) s).1 = shL n (scanF no s).1) := by
  unfold scanF shL
  by_cases h0 : (chkF s).2 ≠ 0
  · rw [if_pos h0, if_pos h0]; exact ⟨rfl, fun e => absurd e h0⟩
  · rw [if_neg h0, if_neg h0]
    by_cases h1 : headF s = []
    · rw [if_pos h1, if_pos h1]
      by_cases h2 : hpB (noteF s) missT = true
      · rw [if_pos h2, if_pos h2]; exact ⟨rfl, fun _ => rfl⟩
      · rw [if_neg h2, if_neg h2]; exact ⟨rfl, fun _ => rfl⟩
    · rw [if_neg h1, if_neg h1]
      by_cases h2 : hpB (headF s) [64] = true
      · rw [if_pos h2, if_pos h2]
        by_cases h3 : (ordF s).2.2 = false ∨ nameF (ordF s).1 = false
        · rw [if_pos h3, if_pos h3]; exact ⟨rfl, fun e => by simp at e⟩
        · rw [if_neg h3, if_neg h3]; exact ⟨rfl, fun _ => rfl⟩
      · rw [if_neg h2, if_neg h2]; exact ⟨rfl, fun _ => rfl⟩
theorem bad_sh (n : Nat) : ∀ l : List (Int × List UInt8), (badL (l.map (shT n))).2 = (badL l).2 ∧ ((badL l).2 ≠ 0 → (badL (l.map (shT n))).1 = (badL l).1 + n)
  | [] => ⟨rfl, fun h => absurd rfl h⟩
  | x :: l => by
    have h1 := scan_sh x.1 n x.2
    have ih := bad_sh n l
    rw [List.map_cons, badL, badL]
    show _ ∧ _
    unfold shT
    simp only [h1.1]
    by_cases h : (scanF x.1 x.2).2 ≠ 0
    · rw [if_pos h, if_pos h]; exact ⟨rfl, fun _ => rfl⟩
    · rw [if_neg h, if_neg h]; exact ih
theorem lines_sh (n : Nat) : ∀ l : List (Int × List UInt8), (badL l).2 = 0 → linesF (l.map (shT n)) = (linesF l).map (shL n)
  | [], _ => rfl
  | x :: l, h => by
    rw [badL] at h
    by_cases hx : (scanF x.1 x.2).2 ≠ 0
    · rw [if_pos hx] at h; exact absurd h hx
    · rw [if_neg hx] at h
      have ih := lines_sh n l h
      unfold linesF at ih ⊢
      rw [List.map_cons, List.map_cons, List.map_cons, List.map_cons, ih]
      congr 1
      exact (scan_sh x.1 n x.2).2 (by omega)
/-! ### both together -/
section
variable {a b : List UInt8}
theorem last_of {c : UInt8} (hc : a[a.length - 1]? = some c) (h : c.toNat = 10) : a.getD (a.length - 1) 0 = 10 := by
  rw [List.getD_eq_getElem?_getD, hc]; exact UInt8.toNat_inj.1 h
theorem mk0 (h : ¬ 0 < markN b) : markN b = 0 := by omega
theorem ap_ok (hn : a ≠ []) (hl : a.getD (a.length - 1) 0 = 10) (hb : markN b = 0) (h1 : (badL (toldF a)).2 = 0) (h2 : (badL (toldF b)).2 = 0) : (badL (toldF (a ++ b))).2 = 0 := by
  rw [told_app hn hl hb, bad_app h1, (bad_sh _ _).1]; exact h2
theorem ap_bad1 (hn : a ≠ []) (hl : a.getD (a.length - 1) 0 = 10) (hb : markN b = 0) (h1 : (badL (toldF a)).2 ≠ 0) : badL (toldF (a ++ b)) = badL (toldF a) := by
  rw [told_app hn hl hb, bad_app2 h1]
theorem ap_bad2 (hn : a ≠ []) (hl : a.getD (a.length - 1) 0 = 10) (hb : markN b = 0) (h1 : (badL (toldF a)).2 = 0) (h2 : (badL (toldF b)).2 ≠ 0) : (badL (toldF (a ++ b))).1 = (badL (toldF b)).1 + (toldF a).length ∧ (badL (toldF (a ++ b))).2 = (badL (toldF b)).2 := by
  rw [told_app hn hl hb, bad_app h1]
  exact ⟨(bad_sh _ _).2 h2, (bad_sh _ _).1⟩
theorem ap_lines (hn : a ≠ []) (hl : a.getD (a.length - 1) 0 = 10) (hb : markN b = 0) (h2 : (badL (toldF b)).2 = 0) : linesF (toldF (a ++ b)) = linesF (toldF a) ++ (linesF (toldF b)).map (shL (toldF a).length) := by
  rw [told_app hn hl hb, ← lines_sh _ _ h2]
  unfold linesF; rw [List.map_append]
end
/-- The first i lines counted on. -/
def shI (n i : Nat) (l : List LineD) : List LineD := (l.take i).map (shL n) ++ l.drop i
theorem shI_zero (n : Nat) (l : List LineD) : shI n 0 l = l := by simp [shI]
theorem shI_len (n i : Nat) (l : List LineD) : (shI n i l).length = l.length := by simp [shI]; omega
theorem shI_end {n i : Nat} {l : List LineD} (h : l.length ≤ i) : shI n i l = l.map (shL n) := by unfold shI; rw [List.take_of_length_le h, List.drop_eq_nil_of_le h, List.append_nil]
theorem shI_step {n i : Nat} {l : List LineD} {ys : List LineV} {x y : LineV} (h : ys.map stripL = shI n i l) (hx : ys[i]? = some x) (hy : stripL y = shL n (stripL x)) : (ys.set i y).map stripL = shI n (i + 1) l := by
  have hi : i < l.length := by
    have h1 := (List.getElem?_eq_some_iff.1 hx).1
    have h2 := congrArg List.length h
    rw [List.length_map, shI_len] at h2; omega
  have hxl : l[i]? = some (stripL x) := by
    have h3 := congrArg (·[i]?) h
    simp only [List.getElem?_map, hx, Option.map_some] at h3
    unfold shI at h3
    rw [List.getElem?_append_right (by simp; omega)] at h3
    simp only [List.length_map, List.length_take] at h3
    rw [List.getElem?_drop, Nat.min_eq_left (Nat.le_of_lt hi)] at h3
    rw [h3]; congr 1; omega
  rw [List.map_set, h, hy]
  unfold shI
  rw [take_at hxl, List.map_append]
  have hd : l.drop i = stripL x :: l.drop (i + 1) := by
    obtain ⟨h4, h5⟩ := List.getElem?_eq_some_iff.1 hxl
    rw [← h5]; exact List.drop_eq_getElem_cons h4
  rw [hd, List.set_append_right _ _ (by simp; omega)]
  simp [Nat.min_eq_left (Nat.le_of_lt hi)]
theorem apart_end {a b : List UInt8} {xs ys zs : List LineV} {i : Nat} (hn : a ≠ []) (hl : a.getD (a.length - 1) 0 = 10) (hb : markN b = 0) (h2 : (badL (toldF b)).2 = 0)
    (hx : xs.map stripL = linesF (toldF a)) (hz : zs.map stripL = linesF (toldF (a ++ b))) (hy : ys.map stripL = shI xs.length i (linesF (toldF b))) (hi : ys.length ≤ i) : eqLs zs (xs ++ ys) = true := by
  apply eqLs_yes
  have h3 := congrArg List.length hy
  rw [List.length_map, shI_len] at h3
  rw [hz, ap_lines hn hl hb h2, List.map_append, hx, hy, shI_end (by omega), ← lines_len hx]
theorem badL_le {n : Int} : ∀ l : List (Int × List UInt8), (∀ x ∈ l, 0 < x.1 ∧ x.1 ≤ n) → 0 ≤ n → 0 ≤ (badL l).1 ∧ (badL l).1 ≤ n
  | [], _, h => ⟨Int.le_refl _, h⟩
  | x :: l, h, h0 => by
    rw [badL]
    have h1 := h x List.mem_cons_self
    split
    · exact ⟨by omega, h1.2⟩
    · exact badL_le l (fun y hy => h y (List.mem_cons_of_mem _ hy)) h0
theorem bad_line (s : List UInt8) : 0 ≤ (badL (toldF s)).1 ∧ (badL (toldF s)).1 ≤ (s.length : Int) + 1 :=
  badL_le _ (fun x hx => by have := told_short hx; omega) (by omega)
theorem scan_no (no : Int) (s : List UInt8) : (scanF no s).1.1 = no ∨ (scanF no s).1.1 = 0 := by
  unfold scanF; repeat' split
  all_goals first | exact .inl rfl | exact .inr rfl
theorem line_no {s : List UInt8} {n i : Nat} {ys : List LineV} {x : LineV} (h : ys.map stripL = shI n i (linesF (toldF s))) (hx : ys[i]? = some x) : 0 ≤ x.1 ∧ x.1 ≤ (s.length : Int) + 1 := by
  have hi : i < (linesF (toldF s)).length := by
    have h1 := (List.getElem?_eq_some_iff.1 hx).1
    have h2 := congrArg List.length h
    rw [List.length_map, shI_len] at h2; omega
  have h3 := congrArg (·[i]?) h
  simp only [List.getElem?_map, hx, Option.map_some] at h3
  unfold shI at h3
  rw [List.getElem?_append_right (by simp; omega)] at h3
  simp only [List.length_map, List.length_take] at h3
  rw [List.getElem?_drop, Nat.min_eq_left (Nat.le_of_lt hi), show i + (i - i) = i by omega] at h3
  unfold linesF at h3
  rw [List.getElem?_map] at h3
  cases hq : (toldF s)[i]? with
  | none => rw [hq] at h3; cases h3
  | some p =>
    rw [hq] at h3
    have h4 := congrArg (fun o : Option LineD => (o.getD zeroL).1) h3
    simp only [Option.map_some, Option.getD_some] at h4
    have h5 := told_short (List.mem_of_getElem? hq)
    have h6 : (stripL x).1 = x.1 := rfl
    rcases scan_no p.1 p.2 with h7 | h7 <;> omega
theorem fs_two {xs ys : List LineV} {n : Nat} (h1 : ∀ x ∈ xs, x.fs.length ≤ n) (h2 : ∀ x ∈ ys, x.fs.length ≤ n) : ∀ x ∈ xs ++ ys, x.fs.length ≤ n := fun x hx => (List.mem_append.1 hx).elim (h1 x) (h2 x)
/-! ### memory -/
section
variable {F : Nat} {w w' : World} {B E k : Nat} {enc : LineV → List Value} {v u q : Value} {xs ys : List LineV}
theorem NRow.app (hx : NRow F w B E k enc v xs) (hy : NRow F w B E k enc u ys) (hg : w.grownBy w' v.ownBlock) (hr : Row w' B E k enc q (xs ++ ys)) (hE : Nat.beq F E = false) : NRow F w' B E k enc q (xs ++ ys) :=
  ⟨hr, fun x hm => (List.mem_append.1 hm).elim (fun h => (hx.2 x h).grown hg ((hx.2 x h).apart hx.1 hE)) (fun h => (hy.2 x h).grown hg ((hy.2 x h).apart hx.1 hE))⟩
theorem NRow.stored {x y : LineV} {j : Nat} (h : NRow F w B E k enc v xs) (hx : xs[j]? = some x) (hr : Row w' B E k enc v (xs.set j y)) (hg : w.grownBy w' v.ownBlock) (hv : y.v = x.v) (hf : y.fs = x.fs) (hE : Nat.beq F E = false) : NRow F w' B E k enc v (xs.set j y) := by
  refine ⟨hr, fun z hz => ?_⟩
  rcases List.mem_or_eq_of_mem_set hz with hz | rfl
  · exact (h.2 z hz).grown hg ((h.2 z hz).apart h.1 hE)
  · rw [hv, hf]
    exact (h.2 x (List.mem_of_getElem? hx)).grown hg ((h.2 x (List.mem_of_getElem? hx)).apart h.1 hE)
theorem nap_two {K : Nat} {x y : Value} {xs ys : List LineV} (ha : ∀ g, NOwn x xs g → g < K) (hb : ∀ g, NOwn y ys g → K ≤ g) : NAp x xs y.ownBlock ∧ NAp y ys x.ownBlock := by
  refine ⟨?_, nap_K ha hb⟩
  have key : ∀ u : Value, (∀ g, u.ownBlock = some g → NOwn x xs g) → u.ownBlock = none ∨ u.ownBlock ≠ y.ownBlock := by
    intro u hu
    cases hq : u.ownBlock with
    | none => exact .inl rfl
    | some g =>
      refine .inr fun e => ?_
      have h1 := ha g (hu g hq)
      have h2 := hb g (.inl e.symm)
      omega
  exact ⟨key x fun g e => .inl e, fun z hz => key z.v fun g e => .inr ⟨z, hz, e⟩⟩
end
end Go.FK
