/- Plain laws of chapter 9: what is printed is read as what it was (in front: chapter 3's law of two texts, one behind the other). -/
import Derived.Test.YtjdcmeoiommglaaDoorPTxt
set_option linter.unusedVariables false
namespace Go.FK
open Go Go.RowKit
def shP (n : Nat) (p : Nat × Nat × Nat) : Nat × Nat × Nat := (p.1 + n, p.2.1 + n, p.2.2 + n)
theorem getD_left {a b : List UInt8} {i : Nat} (h : i < a.length) : (a ++ b).getD i 0 = a.getD i 0 := by
  rw [List.getD_eq_getElem?_getD, List.getD_eq_getElem?_getD, List.getElem?_append_left h]
theorem getD_right {a b : List UInt8} (i : Nat) : (a ++ b).getD (i + a.length) 0 = b.getD i 0 := by
  rw [List.getD_eq_getElem?_getD, List.getD_eq_getElem?_getD, List.getElem?_append_right (by omega), Nat.add_sub_cancel]
/-- the second text -/
theorem pcsN_right (a b : List UInt8) : ∀ (n fr i : Nat), fr ≤ i → pcsN (a ++ b) n (fr + a.length) (i + a.length) = (pcsN b n fr i).map (shP a.length)
  | 0, fr, i, h => by simp [pcsN, shP, Nat.add_comm]
  | n + 1, fr, i, h => by
    rw [pcsN, pcsN, getD_right]
    have h1 : i + a.length + 1 = (i + 1) + a.length := by omega
    split
    · rw [h1, pcsN_right a b n (i + 1) (i + 1) (Nat.le_refl _), List.map_cons]
      congr 1
      unfold shP
      simp only [Prod.mk.injEq, true_and]
      refine ⟨?_, trivial⟩
      unfold crN
      by_cases hc : fr < i
      · have e : (a ++ b).getD (i + a.length - 1) 0 = b.getD (i - 1) 0 := by rw [show i + a.length - 1 = (i - 1) + a.length by omega, getD_right]
        rw [e]
        by_cases h13 : b.getD (i - 1) 0 = 13
        · rw [if_pos ⟨by omega, h13⟩, if_pos ⟨hc, h13⟩]; omega
        · rw [if_neg (fun q => h13 q.2), if_neg (fun q => h13 q.2)]
      · rw [if_neg (fun q => hc (by have := q.1; omega)), if_neg (fun q => hc q.1)]
    · rw [h1, pcsN_right a b n fr (i + 1) (by omega)]
/-- the first text, which ends with an end of line -/
theorem pcsN_left (a b : List UInt8) (hl : a.getD (a.length - 1) 0 = 10) : ∀ (n fr i : Nat), n = a.length - i → fr ≤ i → i ≤ a.length → (i = a.length → fr = i) →
    ∃ init, pcsN a n fr i = init ++ [(a.length, a.length, a.length)] ∧ pcsN (a ++ b) (n + b.length) fr i = init ++ pcsN (a ++ b) b.length a.length a.length ∧ ∀ p ∈ init, p.1 ≤ p.2.1 ∧ p.2.1 ≤ a.length
  | 0, fr, i, hn, h1, h2, h3 => by
    obtain rfl : i = a.length := by omega
    obtain rfl := h3 rfl
    exact ⟨[], rfl, by rw [Nat.zero_add]; rfl, fun p hp => by cases hp⟩
  | n + 1, fr, i, hn, h1, h2, h3 => by
    have hi : i < a.length := by omega
    rw [show n + 1 + b.length = (n + b.length) + 1 by omega, pcsN, pcsN, getD_left hi]
    by_cases h10 : a.getD i 0 = 10
    · rw [if_pos h10, if_pos h10]
      obtain ⟨init, e1, e2, e3⟩ := pcsN_left a b hl n (i + 1) (i + 1) (by omega) (Nat.le_refl _) (by omega) (fun _ => rfl)
      have hcr : crN (a ++ b) fr i = crN a fr i := by
        unfold crN
        by_cases hc : fr < i
        · rw [getD_left (by omega)]
        · rw [if_neg (fun q => hc q.1), if_neg (fun q => hc q.1)]
      refine ⟨(fr, crN a fr i, i + 1) :: init, by rw [e1]; rfl, by rw [e2, hcr]; rfl, fun p hp => ?_⟩
      rcases List.mem_cons.1 hp with rfl | hp
      · have := crN_le a fr i; simp only; omega
      · exact e3 p hp
    · rw [if_neg h10, if_neg h10]
      refine pcsN_left a b hl n fr (i + 1) (by omega) (by omega) (by omega) (fun e => ?_)
      exfalso
      apply h10
      rw [show i = a.length - 1 by omega]; exact hl
theorem markN_app {a b : List UInt8} (hn : a ≠ []) (hl : a.getD (a.length - 1) 0 = 10) : markN (a ++ b) = markN a := by
  unfold markN hpB markT
  match a, hn with
  | [x], _ =>
    have : x = 10 := by simpa using hl
    subst this; simp [List.isPrefixOf]
  | [x, y], _ =>
    have : y = 10 := by simpa using hl
    subst this; simp [List.isPrefixOf]
  | x :: y :: z :: l, _ => simp [List.isPrefixOf]
theorem pcsR_app {a b : List UInt8} (hn : a ≠ []) (hl : a.getD (a.length - 1) 0 = 10) (hb : markN b = 0) : pcsR (a ++ b) = pcsR a ++ (pcsR b).map (shP a.length) := by
  unfold pcsR pcsFrom
  rw [markN_app hn hl, hb]
  have hm := mark_len a
  have hm2 : markN a = a.length → markN a = markN a := fun _ => rfl
  obtain ⟨init, e1, e2, _⟩ := pcsN_left a b hl (a.length - markN a) (markN a) (markN a) rfl (Nat.le_refl _) hm (fun _ => rfl)
  rw [List.length_append, show a.length + b.length - markN a = (a.length - markN a) + b.length by omega, e1, e2]
  have e3 := pcsN_right a b b.length 0 0 (Nat.le_refl _)
  rw [Nat.zero_add] at e3
  rw [e3, List.filter_append, List.filter_append]
  have h0 : List.filter keepP [(a.length, a.length, a.length)] = [] := by simp [keepP]
  rw [h0, List.append_nil, Nat.sub_zero]
  congr 1
  rw [List.filter_map]
  congr 1
  apply List.filter_congr
  intro p _
  simp [keepP, shP]
theorem toldR_app (s : List UInt8) : ∀ (l m : List (Nat × Nat × Nat)) (k : Nat), toldR s k (l ++ m) = toldR s k l ++ toldR s (k + l.length) m
  | [], m, k => by simp [toldR]
  | p :: l, m, k => by rw [List.cons_append, toldR, toldR_app s l m (k + 1), toldR, List.length_cons, show k + 1 + l.length = k + (l.length + 1) by omega]; rfl
theorem toldR_left (a b : List UInt8) : ∀ (l : List (Nat × Nat × Nat)) (k : Nat), (∀ p ∈ l, p.2.1 ≤ a.length) → toldR (a ++ b) k l = toldR a k l
  | [], k, h => rfl
  | p :: l, k, h => by
    rw [toldR, toldR, toldR_left a b l (k + 1) (fun q hq => h q (List.mem_cons_of_mem _ hq)), List.take_append_of_le_length (h p List.mem_cons_self)]
def shT (n : Nat) (x : Int × List UInt8) : Int × List UInt8 := (x.1 + n, x.2)
theorem toldR_right (a b : List UInt8) : ∀ (l : List (Nat × Nat × Nat)) (k n : Nat), toldR (a ++ b) (k + n) (l.map (shP a.length)) = (toldR b k l).map (shT n)
  | [], k, n => rfl
  | p :: l, k, n => by
    rw [List.map_cons, toldR, toldR, List.map_cons, show k + n + 1 = (k + 1) + n by omega, toldR_right a b l (k + 1) n]
    congr 1
    unfold shT shP
    simp only [Prod.mk.injEq]
    refine ⟨by omega, ?_⟩
    have e1 : (a ++ b).take (p.2.1 + a.length) = a ++ b.take p.2.1 := by rw [List.take_append, List.take_of_length_le (by omega), Nat.add_sub_cancel]
    rw [e1, List.drop_append, List.drop_of_length_le (by omega), List.nil_append, Nat.add_sub_cancel]
theorem told_app {a b : List UInt8} (hn : a ≠ []) (hl : a.getD (a.length - 1) 0 = 10) (hb : markN b = 0) : toldF (a ++ b) = toldF a ++ (toldF b).map (shT (toldF a).length) := by
  rw [told_ref, told_ref, told_ref, pcsR_app hn hl hb, toldR_app, toldR_left a b (pcsR a) 0 (fun p hp => by
    obtain ⟨i, hi⟩ := List.mem_iff_getElem?.1 hp
    have := pcsR_ok hi; omega), toldR_len, toldR_right]
/-! ### what a line is, by its number -/
def shL (n : Nat) (x : LineD) : LineD := (x.1 + n, x.2)
theorem scan_sh (no : Int) (n : Nat) (s : List UInt8) : (scanF (no + n) s).2 = (scanF no s).2 ∧ ((scanF no s).2 = 0 → (scanF (no + n) s).1 = shL n (scanF no s).1) := by
  unfold scanF shL
  by_cases h0 : (chkF s).2 ≠ 0
  · rw [if_pos h0, if_pos h0]; exact ⟨rfl, fun e => absurd e h0⟩
  · rw [if_neg h0, if_neg h0]
    by_cases h1 : headF s = []
    · rw [if_pos h1, if_pos h1]
      by_cases h2 : hpB (noteF s) missT = true
      · rw [if_pos h2, if_pos h2]; exact ⟨rfl, fun _ => rfl⟩
      · rw [if_neg h2, if_neg h2]; exact ⟨rfl, fun _ => rfl⟩
    · rw [if_neg h1, if_neg h1]
      by_cases h2 : hpB (headF s) [64] = true
      · rw [if_pos h2, if_pos h2]
        by_cases h3 : (ordF s).2.2 = false ∨ nameF (ordF s).1 = false
        · rw [if_pos h3, if_pos h3]; exact ⟨rfl, fun e => by simp at e⟩
        · rw [if_neg h3, if_neg h3]; exact ⟨rfl, fun _ => rfl⟩
      · rw [if_neg h2, if_neg h2]; exact ⟨rfl, fun _ => rfl⟩
theorem bad_sh (n : Nat) : ∀ l : List (Int × List UInt8), (badL (l.map (shT n))).2 = (badL l).2 ∧ ((badL l).2 ≠ 0 → (badL (l.map (shT n))).1 = (badL l).1 + n)
  | [] => ⟨rfl, fun h => absurd rfl h⟩
  | x :: l => by
    have h1 := scan_sh x.1 n x.2
    have ih := bad_sh n l
    rw [List.map_cons, badL, badL]
    show _ ∧ _
    unfold shT
    simp only [h1.1]
    by_cases h : (scanF x.1 x.2).2 ≠ 0
    · rw [if_pos h, if_pos h]; exact ⟨rfl, fun _ => rfl⟩
    · rw [if_neg h, if_neg h]; exact ih
theorem lines_sh (n : Nat) : ∀ l : List (Int × List UInt8), (badL l).2 = 0 → linesF (l.map (shT n)) = (linesF l).map (shL n)
  | [], _ => rfl
  | x :: l, h => by
    rw [badL] at h
    by_cases hx : (scanF x.1 x.2).2 ≠ 0
    · rw [if_pos hx] at h; exact absurd h hx
    · rw [if_neg hx] at h
      have ih := lines_sh n l h
      unfold linesF at ih ⊢
      rw [List.map_cons, List.map_cons, List.map_cons, List.map_cons, ih]
      congr 1
      exact (scan_sh x.1 n x.2).2 (by omega)
/-! ### both together -/
section
variable {a b : List UInt8}
theorem last_of {c : UInt8} (hc : a[a.length - 1]? = some c) (h : c.toNat = 10) : a.getD (a.length - 1) 0 = 10 := by
  rw [List.getD_eq_getElem?_getD, hc]; exact UInt8.toNat_inj.1 h
theorem mk0 (h : ¬ 0 < markN b) : markN b = 0 := by omega
theorem ap_ok (hn : a ≠ []) (hl : a.getD (a.length - 1) 0 = 10) (hb : markN b = 0) (h1 : (badL (toldF a)).2 = 0) (h2 : (badL (toldF b)).2 = 0) : (badL (toldF (a ++ b))).2 = 0 := by
  rw [told_app hn hl hb, bad_app h1, (bad_sh _ _).1]; exact h2
theorem ap_bad1 (hn : a ≠ []) (hl : a.getD (a.length - 1) 0 = 10) (hb : markN b = 0) (h1 : (badL (toldF a)).2 ≠ 0) : badL (toldF (a ++ b)) = badL (toldF a) := by
  rw [told_app hn hl hb, bad_app2 h1]
theorem ap_bad2 (hn : a ≠ []) (hl : a.getD (a.length - 1) 0 = 10) (hb : markN b = 0) (h1 : (badL (toldF a)).2 = 0) (h2 : (badL (toldF b)).2 ≠ 0) : (badL (toldF (a ++ b))).1 = (badL (toldF b)).1 + (toldF a).length ∧ (badL (toldF (a ++ b))).2 = (badL (toldF b)).2 := by
  rw [told_app hn hl hb, bad_app h1]
  exact ⟨(bad_sh _ _).2 h2, (bad_sh _ _).1⟩
theorem ap_lines (hn : a ≠ []) (hl : a.getD (a.length - 1) 0 = 10) (hb : markN b = 0) (h2 : (badL (toldF b)).2 = 0) : linesF (toldF (a ++ b)) = linesF (toldF a) ++ (linesF (toldF b)).map (shL (toldF a).length) := by
  rw [told_app hn hl hb, ← lines_sh _ _ h2]
  unfold linesF; rw [List.map_append]
end
/-- The first i lines counted on. -/
def shI (n i : Nat) (l : List LineD) : List LineD := (l.take i).map (shL n) ++ l.drop i
theorem shI_zero (n : Nat) (l : List LineD) : shI n 0 l = l := by simp [shI]
theorem shI_len (n i : Nat) (l : List LineD) : (shI n i l).length = l.length := by simp [shI]; omega
theorem shI_end {n i : Nat} {l : List LineD} (h : l.length ≤ i) : shI n i l = l.map (shL n) := by unfold shI; rw [List.take_of_length_le h, List.drop_eq_nil_of_le h, List.append_nil]
theorem shI_step {n i : Nat} {l : List LineD} {ys : List LineV} {x y : LineV} (h : ys.map stripL = shI n i l) (hx : ys[i]? = some x) (hy : stripL y = shL n (stripL x)) : (ys.set i y).map stripL = shI n (i + 1) l := by
  have hi : i < l.length := by
    have h1 := (List.getElem?_eq_some_iff.1 hx).1
    have h2 := congrArg List.length h
    rw [List.length_map, shI_len] at h2; omega
  have hxl : l[i]? = some (stripL x) := by
    have h3 := congrArg (·[i]?) h
    simp only [List.getElem?_map, hx, Option.map_some] at h3
    unfold shI at h3
    rw [List.getElem?_append_right (by simp; omega)] at h3
    simp only [List.length_map, List.length_take] at h3
    rw [List.getElem?_drop, Nat.min_eq_left (Nat.le_of_lt hi)] at h3
    rw [h3]; congr 1; omega
  rw [List.map_set, h, hy]
  unfold shI
  rw [take_at hxl, List.map_append]
  have hd : l.drop i = stripL x :: l.drop (i + 1) := by
    obtain ⟨h4, h5⟩ := List.getElem?_eq_some_iff.1 hxl
    rw [← h5]; exact List.drop_eq_getElem_cons h4
  rw [hd, List.set_append_right _ _ (by simp; omega)]
  simp [Nat.min_eq_left (Nat.le_of_lt hi)]
theorem apart_end {a b : List UInt8} {xs ys zs : List LineV} {i : Nat} (hn : a ≠ []) (hl : a.getD (a.length - 1) 0 = 10) (hb : markN b = 0) (h2 : (badL (toldF b)).2 = 0)
    (hx : xs.map stripL = linesF (toldF a)) (hz : zs.map stripL = linesF (toldF (a ++ b))) (hy : ys.map stripL = shI xs.length i (linesF (toldF b))) (hi : ys.length ≤ i) : eqLs zs (xs ++ ys) = true := by
  apply eqLs_yes
  have h3 := congrArg List.length hy
  rw [List.length_map, shI_len] at h3
  rw [hz, ap_lines hn hl hb h2, List.map_append, hx, hy, shI_end (by omega), ← lines_len hx]
theorem badL_le {n : Int} : ∀ l : List (Int × List UInt8), (∀ x ∈ l, 0 < x.1 ∧ x.1 ≤ n) → 0 ≤ n → 0 ≤ (badL l).1 ∧ (badL l).1 ≤ n
  | [], _, h => ⟨Int.le_refl _, h⟩
  | x :: l, h, h0 => by
    rw [badL]
    have h1 := h x List.mem_cons_self
    split
    · exact ⟨by omega, h1.2⟩
    · exact badL_le l (fun y hy => h y (List.mem_cons_of_mem _ hy)) h0
theorem bad_line (s : List UInt8) : 0 ≤ (badL (toldF s)).1 ∧ (badL (toldF s)).1 ≤ (s.length : Int) + 1 :=
  badL_le _ (fun x hx => by have := told_short hx; omega) (by omega)
theorem scan_no2 (no : Int) (s : List UInt8) : (scanF no s).1.1 = no ∨ (scanF no s).1.1 = 0 := by
  unfold scanF; repeat' split
  all_goals first | exact .inl rfl | exact .inr rfl
theorem line_no {s : List UInt8} {n i : Nat} {ys : List LineV} {x : LineV} (h : ys.map stripL = shI n i (linesF (toldF s))) (hx : ys[i]? = some x) : 0 ≤ x.1 ∧ x.1 ≤ (s.length : Int) + 1 := by
  have hi : i < (linesF (toldF s)).length := by
    have h1 := (List.getElem?_eq_some_iff.1 hx).1
    have h2 := congrArg List.length h
    rw [List.length_map, shI_len] at h2; omega
  have h3 := congrArg (·[i]?) h
  simp only [List.getElem?_map, hx, Option.map_some] at h3
  unfold shI at h3
  rw [List.getElem?_append_right (by simp; omega)] at h3
  simp only [List.length_map, List.length_take] at h3
  rw [List.getElem?_drop, Nat.min_eq_left (Nat.le_of_lt hi), show i + (i - i) = i by omega] at h3
  unfold linesF at h3
  rw [List.getElem?_map] at h3
  cases hq : (toldF s)[i]? with
  | none => rw [hq] at h3; cases h3
  | some p =>
    rw [hq] at h3
    have h4 := congrArg (fun o : Option LineD => (o.getD zeroL).1) h3
    simp only [Option.map_some, Option.getD_some] at h4
    have h5 := told_short (List.mem_of_getElem? hq)
    have h6 : (stripL x).1 = x.1 := rfl
    rcases scan_no2 p.1 p.2 with h7 | h7 <;> omega
theorem fs_two {xs ys : List LineV} {n : Nat} (h1 : ∀ x ∈ xs, x.fs.length ≤ n) (h2 : ∀ x ∈ ys, x.fs.length ≤ n) : ∀ x ∈ xs ++ ys, x.fs.length ≤ n := fun x hx => (List.mem_append.1 hx).elim (h1 x) (h2 x)
/-! ### memory -/
section
variable {F : Nat} {w w' : World} {B E k : Nat} {enc : LineV → List Value} {v u q : Value} {xs ys : List LineV}
theorem NRow.app (hx : NRow F w B E k enc v xs) (hy : NRow F w B E k enc u ys) (hg : w.grownBy w' v.ownBlock) (hr : Row w' B E k enc q (xs ++ ys)) (hE : Nat.beq F E = false) : NRow F w' B E k enc q (xs ++ ys) :=
  ⟨hr, fun x hm => (List.mem_append.1 hm).elim (fun h => (hx.2 x h).grown hg ((hx.2 x h).apart hx.1 hE)) (fun h => (hy.2 x h).grown hg ((hy.2 x h).apart hx.1 hE))⟩
theorem NRow.stored {x y : LineV} {j : Nat} (h : NRow F w B E k enc v xs) (hx : xs[j]? = some x) (hr : Row w' B E k enc v (xs.set j y)) (hg : w.grownBy w' v.ownBlock) (hv : y.v = x.v) (hf : y.fs = x.fs) (hE : Nat.beq F E = false) : NRow F w' B E k enc v (xs.set j y) := by
  refine ⟨hr, fun z hz => ?_⟩
  rcases List.mem_or_eq_of_mem_set hz with hz | rfl
  · exact (h.2 z hz).grown hg ((h.2 z hz).apart h.1 hE)
  · rw [hv, hf]
    exact (h.2 x (List.mem_of_getElem? hx)).grown hg ((h.2 x (List.mem_of_getElem? hx)).apart h.1 hE)
theorem nap_two {K : Nat} {x y : Value} {xs ys : List LineV} (ha : ∀ g, NOwn x xs g → g < K) (hb : ∀ g, NOwn y ys g → K ≤ g) : NAp x xs y.ownBlock ∧ NAp y ys x.ownBlock := by
  refine ⟨?_, nap_K ha hb⟩
  have key : ∀ u : Value, (∀ g, u.ownBlock = some g → NOwn x xs g) → u.ownBlock = none ∨ u.ownBlock ≠ y.ownBlock := by
    intro u hu
    cases hq : u.ownBlock with
    | none => exact .inl rfl
    | some g =>
      refine .inr fun e => ?_
      have h1 := ha g (hu g hq)
      have h2 := hb g (.inl e.symm)
      omega
  exact ⟨key x fun g e => .inl e, fun z hz => key z.v fun g e => .inr ⟨z, hz, e⟩⟩
end
/-! ### numbers shown are read -/
theorem hexTab_dig : ∀ d : Nat, d < 16 → digitV (hexTab.getD d 0).toNat = (d : Int) := by decide
theorem hexTab_zero : ∀ d : Nat, d < 16 → hexTab.getD d 0 = 48 → d = 0 := by decide
theorem digs_cons (n l : Nat) : digsD n (l + 1) = hexDig n l :: digsD n l := by
  unfold digsD; rw [List.range_succ, List.map_append, List.reverse_append]; rfl
theorem hexDig_dig (n l : Nat) : digitV (hexDig n l).toNat = ((n / 16 ^ l % 16 : Nat) : Int) := hexTab_dig _ (Nat.mod_lt _ (by omega))
theorem hexV_digs (n : Nat) : ∀ (l m : Nat), hexV (digsD n l) m = some (m * 16 ^ l + n % 16 ^ l)
  | 0, m => by simp [digsD, hexV]; omega
  | l + 1, m => by
    rw [digs_cons, hexV, hexDig_dig, if_neg (by omega), hexV_digs n l, Int.toNat_natCast, Nat.mod_pow_succ, Nat.pow_succ]
    congr 1
    generalize n / 16 ^ l % 16 = q
    generalize n % 16 ^ l = r
    rw [Nat.add_mul, Nat.mul_comm (16 ^ l) q, Nat.mul_comm (16 ^ l) 16, ← Nat.mul_assoc, Nat.mul_comm m 16]
    omega
theorem cnt_pow {n : Nat} (h : n ≤ 1114111) : n < 16 ^ cntD n := by
  unfold cntD
  split
  · simpa using by assumption
  · split
    · simpa using by assumption
    · simp; omega
theorem digs_first {n : Nat} (h : n ≤ 1114111) (h4 : 4 < cntD n) : ∃ c, (digsD n (cntD n))[0]? = some c ∧ c.toNat ≠ 48 := by
  obtain ⟨k, hk⟩ : ∃ k, cntD n = k + 1 := ⟨cntD n - 1, by omega⟩
  refine ⟨hexDig n k, by rw [hk, digs_cons]; rfl, ?_⟩
  intro e
  have e2 : hexDig n k = 48 := UInt8.toNat_inj.1 e
  have h0 := hexTab_zero _ (Nat.mod_lt (n / 16 ^ k) (by omega)) e2
  unfold cntD at hk h4
  split at hk
  · rename_i h5; rw [if_pos h5] at h4; omega
  · split at hk
    · obtain rfl : k = 4 := by omega
      simp at h0; omega
    · obtain rfl : k = 5 := by omega
      simp at h0; omega
theorem hex_show {r : Int} (h0 : 0 ≤ r) (h1 : r ≤ 1114111) : hexF (showF r).1 = (r, 0) := by
  rw [showF_ok h0 h1]
  have hn : r.toNat ≤ 1114111 := by omega
  have hc := cntD_le r.toNat
  have hv : hexV (digsD r.toNat (cntD r.toNat)) 0 = some r.toNat := by rw [hexV_digs, Nat.zero_mul, Nat.zero_add, Nat.mod_eq_of_lt (cnt_pow hn)]
  have := hexF_ok hv hn (by rw [digsD_len]; omega) (by rw [digsD_len]; omega) (by
    rw [digsD_len]
    rcases Nat.lt_or_ge 4 (cntD r.toNat) with h | h
    · exact .inr (digs_first hn h)
    · exact .inl h)
  rw [this, Int.toNat_of_nonneg h0]
/-- A digit's byte. -/
def dgB (c : UInt8) : Bool := decide (48 ≤ c.toNat ∧ c.toNat ≤ 57) || decide (65 ≤ c.toNat ∧ c.toNat ≤ 70)
theorem dg_tab : ∀ d : Nat, d < 16 → dgB (hexTab.getD d 0) = true := by decide
theorem digs_dg (n l : Nat) : ∀ c ∈ digsD n l, dgB c = true := by
  intro c hc
  unfold digsD at hc
  rw [List.mem_reverse] at hc
  obtain ⟨i, _, rfl⟩ := List.mem_map.1 hc
  exact dg_tab _ (Nat.mod_lt _ (by omega))
theorem show_dg {r : Int} (h0 : 0 ≤ r) (h1 : r ≤ 1114111) : (∀ c ∈ (showF r).1, dgB c = true) ∧ 4 ≤ (showF r).1.length ∧ (showF r).1.length ≤ 6 := by
  rw [showF_ok h0 h1]
  have hc := cntD_le r.toNat
  refine ⟨digs_dg _ _, ?_, ?_⟩ <;> rw [digsD_len] <;> omega
/-! ### a line of plain bytes is right -/
theorem chk_plain {s : List UInt8} (hs : ∀ c ∈ s, 32 ≤ c.toNat ∧ c.toNat < 127) (hl : s.length ≤ 4096) : (chkF s).2 = 0 := by
  have key : ∀ (k p : Nat), s.length - p = k → p ≤ s.length → (chkL (charsFrom s p) p).2 = 0 := by
    intro k
    induction k with
    | zero => intro p hk hp; rw [chk_end (by omega)]
    | succ k ih =>
      intro p hk hp
      have hlt : p < s.length := by omega
      obtain ⟨c, hc⟩ : ∃ c, s[p]? = some c := ⟨s[p], List.getElem?_eq_getElem hlt⟩
      have hb := hs c (List.mem_of_getElem? hc)
      have hd := dec_low hc (by omega)
      rw [chk_on hlt (by omega) (by rw [wrong_eq, hd]; exact decide_eq_false (by simp only; omega)) (by rw [hd]; simp only; omega), hd]
      exact ih (p + 1) (by omega) (by omega)
  exact key s.length 0 (by omega) (by omega)
theorem trm_id {s : List UInt8} (hs : ∀ c ∈ s, c.toNat ≠ 32 ∧ c.toNat ≠ 9) : trmF s = s := by
  refine trm_done ?_
  cases hq : s with
  | nil => exact .inl rfl
  | cons a l =>
    rw [← hq]
    have hl : s.length = l.length + 1 := by rw [hq]; rfl
    have h0 : s[0]? = some a := by rw [hq]; rfl
    obtain ⟨d, hd⟩ : ∃ d, s[s.length - 1]? = some d := ⟨s[s.length - 1]'(by omega), List.getElem?_eq_getElem (by omega)⟩
    have h1 := hs a (List.mem_of_getElem? h0)
    have h2 := hs d (List.mem_of_getElem? hd)
    exact .inr ⟨a, d, h0, by omega, hd, by omega⟩
theorem nmem_of {s : List UInt8} {b : UInt8} (h : ∀ c ∈ s, c.toNat ≠ b.toNat) : b ∉ s := fun hb => h b hb rfl
/-! ### one line told -/
theorem told_one {x : List UInt8} (h10 : ∀ c ∈ x, c.toNat ≠ 10) (h13 : ∀ c ∈ x, c.toNat ≠ 13) (hne : x ≠ []) (hm : markN (x ++ [10]) = 0) : toldF (x ++ [10]) = [(1, x)] := by
  have hlen : (x ++ [10]).length = x.length + 1 := by simp
  have key : ∀ k, k ≤ x.length → [] ++ (pcsFrom (x ++ [10]) 0 k).filter keepP = pcsR (x ++ [10]) := by
    intro k
    induction k with
    | zero => intro _; unfold pcsR; rw [hm]; rfl
    | succ k ih =>
      intro hk
      obtain ⟨c, hc⟩ : ∃ c, x[k]? = some c := ⟨x[k]'(by omega), List.getElem?_eq_getElem (by omega)⟩
      exact pr_on (by rw [List.getElem?_append_left (by omega)]; exact hc) (h10 c (List.mem_of_getElem? hc)) (ih (by omega))
  have hpos : 0 < x.length := List.length_pos_iff.2 hne
  obtain ⟨d, hd⟩ : ∃ d, x[x.length - 1]? = some d := ⟨x[x.length - 1]'(by omega), List.getElem?_eq_getElem (by omega)⟩
  have hcr : crN (x ++ [10]) 0 x.length = x.length := by
    unfold crN
    rw [if_neg]
    rintro ⟨_, e⟩
    rw [List.getD_eq_getElem?_getD, List.getElem?_append_left (by omega), hd] at e
    have e : d = 13 := e
    exact h13 d (List.mem_of_getElem? hd) (by rw [e]; rfl)
  have h1 := pr_nl (to := x.length) (Nat.zero_le _) (show (x ++ [10])[x.length]? = some 10 by simp) rfl hcr.symm (key x.length (Nat.le_refl _))
  rw [pcs_end (by omega)] at h1
  rw [List.filter_cons, if_neg (by simp [keepP])] at h1
  rw [told_ref, ← h1]
  simp [toldR]
/-! ### a printed line -/
def headX (A B : List UInt8) : List UInt8 := A ++ 59 :: (32 :: B)
theorem dg_range {c : UInt8} (h : dgB c = true) : 48 ≤ c.toNat ∧ c.toNat ≤ 70 ∧ c.toNat ≠ 59 ∧ c.toNat ≠ 64 := by
  unfold dgB at h
  simp only [Bool.or_eq_true, decide_eq_true_eq] at h
  omega
section
variable {A B : List UInt8} (hA : ∀ c ∈ A, dgB c = true) (hB : ∀ c ∈ B, dgB c = true) (nA : A ≠ []) (nB : B ≠ [])
include hA hB in
theorem head_mem : ∀ c ∈ headX A B, 32 ≤ c.toNat ∧ c.toNat ≤ 70 ∧ c.toNat ≠ 35 ∧ c.toNat ≠ 64 := by
  intro c hc
  unfold headX at hc
  rcases List.mem_append.1 hc with h | h
  · have := dg_range (hA c h); omega
  · rcases List.mem_cons.1 h with rfl | h
    · decide
    · rcases List.mem_cons.1 h with rfl | h
      · decide
      · have := dg_range (hB c h); omega
include hA in
theorem trm_dg : trmF A = A := trm_id fun c hc => by have := dg_range (hA c hc); omega
include hA hB nA nB in
theorem trm_head : trmF (headX A B) = headX A B := by
  obtain ⟨a, A', rfl⟩ : ∃ a A', A = a :: A' := by cases A with | nil => exact absurd rfl nA | cons a l => exact ⟨a, l, rfl⟩
  refine trm_done (.inr ⟨a, B.getLast nB, rfl, ?_, ?_, ?_⟩)
  · have := dg_range (hA a List.mem_cons_self); omega
  · unfold headX
    have h : ((a :: A') ++ 59 :: (32 :: B)) = ((a :: A') ++ [59, 32]) ++ B := by simp
    rw [h, List.getElem?_append_right (by simp only [List.length_append]; have := List.length_pos_iff.2 nB; omega)]
    rw [List.getLast_eq_getElem]
    have e : ((a :: A') ++ [59, 32] ++ B).length - 1 - ((a :: A') ++ [59, 32]).length = B.length - 1 := by simp only [List.length_append]; have := List.length_pos_iff.2 nB; omega
    rw [e]; exact List.getElem?_eq_getElem (by have := List.length_pos_iff.2 nB; omega)
  · have := dg_range (hB _ (List.getLast_mem nB)); omega
include hA hB nA nB in
theorem fields_head : fieldsF (headX A B) = [A, B] := by
  unfold fieldsF
  rw [trm_head hA hB nA nB, if_neg (by unfold headX; simp)]
  unfold headX
  rw [splF_run A (32 :: B) (nmem_of fun c hc => by have := dg_range (hA c hc); show c.toNat ≠ 59; omega)]
  rw [splF_one (32 :: B) (nmem_of fun c hc => by
    rcases List.mem_cons.1 hc with rfl | hc
    · decide
    · have := dg_range (hB c hc); show c.toNat ≠ 59; omega)]
  simp only [List.map_cons, List.map_nil]
  rw [trm_dg hA, trm_cons B (by decide), trm_dg hB]
/-- A line with a note or without. -/
def lineX (A B : List UInt8) (best : Bool) : List UInt8 := headX A B ++ (if best = true then bestN else [])
include hA hB in
theorem cut_line (best : Bool) : Lib.cut (lineX A B best) [35] = (if best = true then (headX A B ++ [32], 32 :: bestT, true) else (headX A B, [], false)) := by
  have hm := head_mem hA hB
  rw [cut_unt]
  cases best with
  | false =>
    rw [if_neg (by decide)]
    unfold lineX
    rw [if_neg (by decide), List.append_nil]
    exact unt_none (i := (headX A B).length) (fun j c _ _ hc e => by have := hm c (List.mem_of_getElem? hc); rw [e] at this; exact this.2.2.1 rfl) (Nat.le_refl _)
  | true =>
    rw [if_pos rfl]
    unfold lineX
    rw [if_pos rfl]
    have h1 : headX A B ++ bestN = (headX A B ++ [32]) ++ 35 :: (32 :: bestT) := by unfold bestN bestT; simp
    rw [h1]
    have hc : ((headX A B ++ [32]) ++ 35 :: (32 :: bestT))[(headX A B ++ [32]).length]? = some 35 := by rw [List.getElem?_append_right (Nat.le_refl _), Nat.sub_self]; rfl
    rw [unt_hit (i := (headX A B ++ [32]).length) ?_ hc rfl]
    · rw [List.take_left' rfl]
      have h2 : ((headX A B ++ [32]) ++ 35 :: (32 :: bestT)).drop ((headX A B ++ [32]).length + 1) = 32 :: bestT := by
        rw [← List.drop_drop, List.drop_left' rfl]; rfl
      rw [h2]
    · intro j c _ hj hc e
      rw [List.getElem?_append_left hj] at hc
      rcases List.mem_append.1 (List.mem_of_getElem? hc) with h | h
      · have := hm c h; rw [e] at this; exact this.2.2.1 rfl
      · rw [List.mem_singleton.1 h] at e; exact absurd e (by decide)
include hA hB nA nB in
theorem scan_line (no : Int) (best : Bool) (hl : (lineX A B best).length ≤ 4096) : scanF no (lineX A B best) = ((no, 1, [], [A, B], if best = true then bestT else []), 0) := by
  have hm := head_mem hA hB
  have hcut := cut_line hA hB best
  have hch : (chkF (lineX A B best)).2 = 0 := by
    refine chk_plain (fun c hc => ?_) hl
    unfold lineX at hc
    rcases List.mem_append.1 hc with h | h
    · have := hm c h; omega
    · cases best with
      | false => rw [if_neg (by decide)] at h; cases h
      | true =>
        rw [if_pos rfl] at h
        have key : ∀ d ∈ bestN, 32 ≤ d.toNat ∧ d.toNat < 127 := by decide
        exact key c h
  have hhead : headF (lineX A B best) = headX A B := by
    unfold headF; rw [hcut]
    cases best with
    | false => rw [if_neg (by decide)]; exact trm_head hA hB nA nB
    | true => rw [if_pos rfl]; show trmF (headX A B ++ [32]) = _; rw [trm_snoc _ (by decide)]; exact trm_head hA hB nA nB
  have hnote : noteF (lineX A B best) = if best = true then bestT else [] := by
    unfold noteF; rw [hcut]
    cases best with
    | false => rfl
    | true => rw [if_pos rfl, if_pos rfl]; show trmF (32 :: bestT) = bestT; decide
  have hfld : (cutF (lineX A B best)).1 = [A, B] := by rw [cutF_head, hhead]; exact fields_head hA hB nA nB
  have hne : headF (lineX A B best) ≠ [] := by rw [hhead]; unfold headX; simp
  have h64 : hpB (headF (lineX A B best)) [64] = false := by
    rw [hhead]
    obtain ⟨a, A', rfl⟩ : ∃ a A', A = a :: A' := by cases A with | nil => exact absurd rfl nA | cons a l => exact ⟨a, l, rfl⟩
    exact hp_one_not (c := a) rfl (by have := dg_range (hA a List.mem_cons_self); omega)
  rw [scan_data hch hne h64, hfld, hnote]
end
/-! ### a list printed -/
def okM (m : Mir) : Prop := (0 ≤ m.2.1 ∧ m.2.1 ≤ 1114111) ∧ 0 ≤ m.2.2.1 ∧ m.2.2.1 ≤ 1114111
theorem mline_eq (m : Mir) : mlineF m = lineX (showF m.2.1).1 (showF m.2.2.1).1 m.2.2.2 ++ [10] := by
  unfold mlineF lineX headX
  cases m.2.2.2 <;> simp
def noteM (m : Mir) : List UInt8 := if m.2.2.2 = true then bestT else []
def lnM (k : Nat) (m : Mir) : LineD := ((k : Int) + 1, 1, [], [(showF m.2.1).1, (showF m.2.2.1).1], noteM m)
def lns : Nat → List Mir → List LineD
  | _, [] => []
  | k, m :: l => lnM k m :: lns (k + 1) l
theorem lns_sh : ∀ (l : List Mir) (k : Nat), (lns k l).map (shL 1) = lns (k + 1) l
  | [], _ => rfl
  | m :: l, k => by
    rw [lns, List.map_cons, lns_sh l (k + 1), lns]
    congr 1
section
variable {m : Mir} (h : okM m)
include h in
theorem okA : (∀ c ∈ (showF m.2.1).1, dgB c = true) ∧ (showF m.2.1).1 ≠ [] ∧ (showF m.2.1).1.length ≤ 6 := by
  have := show_dg h.1.1 h.1.2
  exact ⟨this.1, fun e => by rw [e] at this; simp at this, this.2.2⟩
include h in
theorem okB : (∀ c ∈ (showF m.2.2.1).1, dgB c = true) ∧ (showF m.2.2.1).1 ≠ [] ∧ (showF m.2.2.1).1.length ≤ 6 := by
  have := show_dg h.2.1 h.2.2
  exact ⟨this.1, fun e => by rw [e] at this; simp at this, this.2.2⟩
theorem lineX_len : (lineX (showF m.2.1).1 (showF m.2.2.1).1 m.2.2.2).length ≤ 28 := by
  have h1 := mline_len m
  rw [mline_eq, List.length_append] at h1; omega
include h in
theorem lineX_mem : ∀ c ∈ lineX (showF m.2.1).1 (showF m.2.2.1).1 m.2.2.2, 32 ≤ c.toNat ∧ c.toNat < 127 := by
  intro c hc
  unfold lineX at hc
  rcases List.mem_append.1 hc with q | q
  · have := head_mem (okA h).1 (okB h).1 c q; omega
  · split at q
    · have key : ∀ d ∈ bestN, 32 ≤ d.toNat ∧ d.toNat < 127 := by decide
      exact key c q
    · cases q
include h in
theorem lineX_first : ∃ a r, lineX (showF m.2.1).1 (showF m.2.2.1).1 m.2.2.2 = a :: r ∧ a.toNat ≤ 70 := by
  obtain ⟨h1, h2, _⟩ := okA h
  cases hq : (showF m.2.1).1 with
  | nil => exact absurd hq h2
  | cons a l => exact ⟨a, _, rfl, (dg_range (h1 a (by rw [hq]; exact List.mem_cons_self))).2.1⟩
include h in
theorem told_line : toldF (mlineF m) = [(1, lineX (showF m.2.1).1 (showF m.2.2.1).1 m.2.2.2)] := by
  have hm := lineX_mem h
  obtain ⟨a, r, hq, ha⟩ := lineX_first h
  rw [mline_eq]
  refine told_one (fun c hc => by have := hm c hc; omega) (fun c hc => by have := hm c hc; omega) (by rw [hq]; simp) ?_
  unfold markN
  rw [if_neg]
  rw [hq]
  unfold hpB markT
  intro e
  simp only [List.cons_append, List.isPrefixOf, Bool.and_eq_true, beq_iff_eq] at e
  have := e.1; rw [← this] at ha; exact absurd ha (by decide)
include h in
theorem scan_mline : scanF 1 (lineX (showF m.2.1).1 (showF m.2.2.1).1 m.2.2.2) = (lnM 0 m, 0) := by
  rw [scan_line (okA h).1 (okB h).1 (okA h).2.1 (okB h).2.1 1 m.2.2.2 (by have := lineX_len (m := m); omega)]
  rfl
include h in
theorem msc_line (k : Nat) : mscL (lnM k m) = (((k : Int) + 1, m.2), 0) := by
  unfold mscL lnM
  rw [ms_ok (a := (showF m.2.1).1) (b := (showF m.2.2.1).1) rfl rfl rfl rfl (by rw [hex_show h.1.1 h.1.2]) (by rw [hex_show h.2.1 h.2.2]), hex_show h.1.1 h.1.2, hex_show h.2.1 h.2.2]
  have : hpB (noteM m) bestT = m.2.2.2 := by
    unfold noteM
    cases m.2.2.2
    · rfl
    · decide
  show (((k : Int) + 1, m.2.1, m.2.2.1, hpB (noteM m) bestT), (0 : Int)) = _
  rw [this]
end
theorem mark_body : ∀ l : List Mir, (∀ m ∈ l, okM m) → markN (mbodyF l) = 0
  | [], _ => rfl
  | m :: l, h => by
    obtain ⟨a, r, hq, ha⟩ := lineX_first (h m List.mem_cons_self)
    have e : mbodyF (m :: l) = a :: (r ++ [10] ++ mbodyF l) := by unfold mbodyF; rw [List.flatMap_cons, mline_eq, hq]; simp
    unfold markN
    rw [if_neg]
    rw [e]
    unfold hpB markT
    intro e
    simp only [List.isPrefixOf, Bool.and_eq_true, beq_iff_eq] at e
    have := e.1; rw [← this] at ha; exact absurd ha (by decide)
theorem body_told : ∀ l : List Mir, (∀ m ∈ l, okM m) → (badL (toldF (mbodyF l))).2 = 0 ∧ linesF (toldF (mbodyF l)) = lns 0 l
  | [], _ => ⟨rfl, rfl⟩
  | m :: l, h => by
    have hm := h m List.mem_cons_self
    have hl : ∀ x ∈ l, okM x := fun x hx => h x (List.mem_cons_of_mem _ hx)
    obtain ⟨ih1, ih2⟩ := body_told l hl
    have hb : mbodyF (m :: l) = mlineF m ++ mbodyF l := by unfold mbodyF; rw [List.flatMap_cons]
    have hlast : (mlineF m).getD ((mlineF m).length - 1) 0 = 10 := by
      rw [mline_eq, List.getD_eq_getElem?_getD, List.length_append, List.length_singleton, Nat.add_sub_cancel, List.getElem?_append_right (Nat.le_refl _), Nat.sub_self]; rfl
    rw [hb, told_app (by rw [mline_eq]; simp) hlast (mark_body l hl), told_line hm]
    have hs := scan_mline hm
    have h1 : (badL [((1 : Int), lineX (showF m.2.1).1 (showF m.2.2.1).1 m.2.2.2)]).2 = 0 := by rw [bad_one, hs]; rfl
    refine ⟨by rw [bad_app h1, (bad_sh _ _).1]; exact ih1, ?_⟩
    show linesF ([_] ++ (toldF (mbodyF l)).map (shT 1)) = _
    have h2 := lines_sh 1 _ ih1
    unfold linesF at h2 ih2 ⊢
    rw [List.map_append, h2, ih2, lns_sh, List.map_singleton, hs]
    rfl
def rel : Nat → List Mir → List Mir
  | _, [] => []
  | k, m :: l => ((k : Int) + 1, m.2) :: rel (k + 1) l
theorem mgo_lns : ∀ (l : List Mir) (k : Nat) (acc : List Mir), (∀ m ∈ l, okM m) → mgo acc (lns k l) = (acc ++ rel k l, 0, 0)
  | [], k, acc, _ => by rw [lns, mgo, rel, List.append_nil]
  | m :: l, k, acc, h => by
    have hm := msc_line (h m List.mem_cons_self) k
    rw [lns, mgo, hm, if_neg (show ¬ ((lnM k m).2.1 = 0 ∨ (lnM k m).2.1 = 3) from (by decide : ¬ ((1 : Int) = 0 ∨ (1 : Int) = 3))), if_neg (by simp), mgo_lns l (k + 1) _ (fun x hx => h x (List.mem_cons_of_mem _ hx)), rel]
    simp
theorem rel_bare : ∀ (l : List Mir) (k : Nat), (rel k l).map bareM = l.map bareM
  | [], _ => rfl
  | m :: l, k => by rw [rel, List.map_cons, List.map_cons, rel_bare l (k + 1)]; rfl
theorem chkA_rel : ∀ (l : List Mir) (k : Nat) (seen : List Int) (i : Nat), chkA seen i (rel k l) = chkA seen i l
  | [], _, _, _ => rfl
  | m :: l, k, seen, i => by rw [rel, chkA, chkA, chkA_rel l]
theorem any_rel (f : Mir → Bool) (hf : ∀ (a b : Int) (x : Int × Int × Bool), f (a, x) = f (b, x)) : ∀ (l : List Mir) (k : Nat), (rel k l).any f = l.any f
  | [], _ => rfl
  | m :: l, k => by rw [rel, List.any_cons, List.any_cons, any_rel f hf l (k + 1), hf _ m.1 m.2]
theorem chkB_rel (all : List Mir) (j : Nat) : ∀ (l : List Mir) (k i : Nat), chkB (rel j all) i (rel k l) = chkB all i l
  | [], _, _ => rfl
  | m :: l, k, i => by
    have hb : backB (rel j all) ((k : Int) + 1, m.2) = backB all m := any_rel _ (fun a b x => rfl) all j
    rw [rel, chkB, chkB, hb, chkB_rel all j l]
theorem mcheck_rel (l : List Mir) (k : Nat) : mcheckF (rel k l) = mcheckF l := by
  unfold mcheckF
  rw [chkA_rel, chkB_rel]
theorem chkA_ok : ∀ (l : List Mir) (seen : List Int) (i : Nat), (chkA seen i l).2 = 0 → ∀ m ∈ l, okM m
  | [], _, _, _ => fun m hm => by cases hm
  | x :: l, seen, i, h => by
    rw [chkA] at h
    by_cases h1 : ptB x.2.1 = false ∨ ptB x.2.2.1 = false
    · rw [if_pos h1] at h; simp at h
    · rw [if_neg h1] at h
      split at h
      · simp at h
      · split at h
        · simp at h
        · intro m hm
          rcases List.mem_cons.1 hm with rfl | hm
          · have h2 : ptB m.2.1 = true := by cases hq : ptB m.2.1 with | true => rfl | false => exact absurd (.inl hq) h1
            have h3 : ptB m.2.2.1 = true := by cases hq : ptB m.2.2.1 with | true => rfl | false => exact absurd (.inr hq) h1
            exact ⟨of_decide_eq_true h2, of_decide_eq_true h3⟩
          · exact chkA_ok l _ _ h m hm
theorem mcheck_ok {l : List Mir} (h : (mcheckF l).2 = 0) : ∀ m ∈ l, okM m := by
  unfold mcheckF at h
  by_cases hA : (chkA [] 0 l).2 ≠ 0
  · rw [if_pos hA] at h; exact absurd h hA
  · exact chkA_ok l [] 0 (by omega)
theorem read_body {l : List Mir} (h : (mcheckF l).2 = 0) : mreadF (mbodyF l) = (rel 0 l, 0, 0) := by
  have hk := mcheck_ok h
  obtain ⟨h1, h2⟩ := body_told l hk
  have h3 := mgo_lns l 0 [] hk
  rw [List.nil_append] at h3
  unfold mreadF
  rw [if_neg (by omega), h2, h3, if_neg (by simp), mcheck_rel, if_neg (by omega)]
theorem print_read {l : List Mir} (h : (mprintF l).2 = 0) : (mreadF (mprintF l).1).2.2 = 0 ∧ eqBare (mreadF (mprintF l).1).1 l = true := by
  by_cases hc : (mcheckF l).2 = 0
  · rw [mp_ok hc, read_body hc]
    exact ⟨rfl, decide_eq_true (rel_bare l 0)⟩
  · rw [mp_bad hc] at h; exact absurd h hc
theorem print_none {l : List Mir} (h : (mprintF l).2 ≠ 0) : (mprintF l).1 = [] := by
  by_cases hc : (mcheckF l).2 = 0
  · rw [mp_ok hc] at h; exact absurd rfl h
  · rw [mp_bad hc]
theorem read_print {s : List UInt8} (h : (mreadF s).2.2 = 0) : (mprintF (mreadF s).1).2 = 0 := by
  unfold mreadF at h ⊢
  by_cases c1 : (badL (toldF s)).2 ≠ 0
  · rw [if_pos c1] at h; exact absurd h c1
  · rw [if_neg c1] at h ⊢
    by_cases c2 : (mgo [] (linesF (toldF s))).2.2 ≠ 0
    · rw [if_pos c2] at h; exact absurd h c2
    · rw [if_neg c2] at h ⊢
      by_cases c3 : (mcheckF (mgo [] (linesF (toldF s))).1).2 ≠ 0
      · rw [if_pos c3] at h; exact absurd h c3
      · rw [if_neg c3]
        rw [mp_ok (by show (mcheckF (mgo [] (linesF (toldF s))).1).2 = 0; omega)]
theorem lens_el {f : List (List UInt8)} {x : List UInt8} (h : x ∈ f) : x.length ≤ Lib.lens f := by
  induction f with
  | nil => cases h
  | cons a f ih =>
    simp only [Lib.lens, List.map_cons, List.sum_cons] at ih ⊢
    rcases List.mem_cons.1 h with rfl | h
    · omega
    · have := ih h; omega
theorem snoc_same {α : Type} {f : List α} {a x y : α} {i : Nat} (h : (f ++ [a])[i]? = some x) (hy : f[i]? = some y) : x = y := by
  rw [List.getElem?_append_left (List.getElem?_eq_some_iff.1 hy).1, hy] at h
  exact (Option.some.inj h).symm
theorem snoc_end {α : Type} {f : List α} {a x : α} {i : Nat} (h : (f ++ [a])[i]? = some x) (e : i = f.length) : x = a := by
  subst e; rw [List.getElem?_append_right (Nat.le_refl _), Nat.sub_self] at h
  exact (Option.some.inj h).symm
end Go.FK
