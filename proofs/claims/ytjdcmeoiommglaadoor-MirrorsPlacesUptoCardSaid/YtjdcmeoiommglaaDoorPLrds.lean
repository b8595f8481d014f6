/- Plain laws of chapter 3: the reference's lines, one by one; lists of lines held against each other. -/
import Derived.Test.YtjdcmeoiommglaaDoorPLeach
set_option linter.unusedVariables false
namespace Go.FK
open Go Go.RowKit
theorem told_piece {s : List UInt8} {k : Nat} {p : Nat × Nat × Nat} (hp : (pcsR s)[k]? = some p) : (toldF s)[k]? = some (((k + 1 : Nat) : Int), (s.take p.2.1).drop p.1) := by
  rw [told_ref]
  have := toldR_at s (pcsR s) 0 k p hp
  rw [Nat.zero_add] at this; exact this
theorem take_at {α : Type} {l : List α} {k : Nat} {x : α} (h : l[k]? = some x) : l.take (k + 1) = l.take k ++ [x] := by
  obtain ⟨h1, rfl⟩ := List.getElem?_eq_some_iff.1 h
  exact List.take_succ_eq_append_getElem h1
theorem take_pre {α : Type} (l : List α) (k : Nat) : l.take k <+: l := ⟨l.drop k, List.take_append_drop k l⟩
theorem ok_at {s : List UInt8} {k : Nat} {p : Nat × Nat × Nat} (hok : (badL (toldF s)).2 = 0) (hp : (pcsR s)[k]? = some p) : (scanF ((k + 1 : Nat) : Int) ((s.take p.2.1).drop p.1)).2 = 0 := by
  have h := take_at (told_piece hp)
  have := take_pre (toldF s) (k + 1)
  rw [h] at this
  exact bad_mem hok this
theorem lines_at {s : List UInt8} {k : Nat} {p : Nat × Nat × Nat} {acc : List LineV} {y : LineV} (hp : (pcsR s)[k]? = some p) (h : acc.map stripL = linesF ((toldF s).take k)) (hy : stripL y = (scanF ((k + 1 : Nat) : Int) ((s.take p.2.1).drop p.1)).1) : (acc ++ [y]).map stripL = linesF ((toldF s).take (k + 1)) := by
  rw [take_at (told_piece hp)]; exact lines_snoc h hy
theorem bad_on {s : List UInt8} {k : Nat} {p : Nat × Nat × Nat} (hp : (pcsR s)[k]? = some p) (h : (badL ((toldF s).take k)).2 = 0) (hy : (scanF ((k + 1 : Nat) : Int) ((s.take p.2.1).drop p.1)).2 = 0) : (badL ((toldF s).take (k + 1))).2 = 0 := by
  rw [take_at (told_piece hp)]; exact bad_snoc_ok h hy
theorem bad_here {s : List UInt8} {k : Nat} {p : Nat × Nat × Nat} (hp : (pcsR s)[k]? = some p) (h : (badL ((toldF s).take k)).2 = 0) (hy : (scanF ((k + 1 : Nat) : Int) ((s.take p.2.1).drop p.1)).2 ≠ 0) : badL (toldF s) = (((k + 1 : Nat) : Int), (scanF ((k + 1 : Nat) : Int) ((s.take p.2.1).drop p.1)).2) := by
  have h1 := bad_snoc (x := (((k + 1 : Nat) : Int), (s.take p.2.1).drop p.1)) h hy
  rw [← take_at (told_piece hp)] at h1
  rw [bad_pre (take_pre (toldF s) (k + 1)) (by rw [h1]; exact hy), h1]
theorem told_take {s : List UInt8} {k : Nat} (h : (pcsR s).length ≤ k) : (toldF s).take k = toldF s := List.take_of_length_le (by rw [told_lenR]; exact h)
theorem lines_len {l : List LineV} {k : List (Int × List UInt8)} (h : l.map stripL = linesF k) : l.length = k.length := by
  have := congrArg List.length h
  rw [List.length_map] at this
  unfold linesF at this
  rw [List.length_map] at this; exact this
/-! ### lists of lines -/
open Classical in
noncomputable def eqLs (a b : List LineV) : Bool := decide (a.map stripL = b.map stripL)
open Classical in
theorem eqLs_yes {a b : List LineV} (h : a.map stripL = b.map stripL) : eqLs a b = true := by unfold eqLs; exact decide_eq_true h
open Classical in
theorem eqLs_no {a b : List LineV} (h : ¬ a.map stripL = b.map stripL) : eqLs a b = false := by unfold eqLs; exact decide_eq_false h
theorem eqLs_of {a b : List LineV} (h : eqLs a b = false) : ¬ a.map stripL = b.map stripL := fun e => by rw [eqLs_yes e] at h; cases h
theorem sa_step {a b : List LineV} {i : Nat} {x y : LineV} (h : (a.map stripL).take i = (b.map stripL).take i) (hx : a[i]? = some x) (hy : b[i]? = some y) (e : stripL x = stripL y) : (a.map stripL).take (i + 1) = (b.map stripL).take (i + 1) :=
  take_same h (by rw [List.getElem?_map, hx]; rfl) (by rw [List.getElem?_map, hy]; rfl) e
theorem sa_no {a b : List LineV} {i : Nat} {x y : LineV} (hx : a[i]? = some x) (hy : b[i]? = some y) (e : stripL x ≠ stripL y) : ¬ a.map stripL = b.map stripL := by
  intro h
  have := congrArg (·[i]?) h
  simp only [List.getElem?_map, hx, hy, Option.map_some, Option.some.injEq] at this
  exact e this
theorem sa_len {a b : List LineV} (h : a.length ≠ b.length) : ¬ a.map stripL = b.map stripL := by
  intro e; exact h (by simpa using congrArg List.length e)
theorem sa_end {a b : List LineV} {i : Nat} (h : (a.map stripL).take i = (b.map stripL).take i) (hl : a.length = b.length) (hi : a.length ≤ i) : a.map stripL = b.map stripL := by
  rw [List.take_of_length_le (by rw [List.length_map]; exact hi), List.take_of_length_le (by rw [List.length_map]; omega)] at h; exact h
theorem fs_len {s : List UInt8} {l : List LineV} (h : l.map stripL = linesF (toldF s)) (hs : s.length ≤ 1073741823) : ∀ x ∈ l, x.fs.length ≤ 1073741824 := by
  intro x hx
  have h1 : stripL x ∈ linesF (toldF s) := by rw [← h]; exact List.mem_map_of_mem hx
  unfold linesF at h1
  obtain ⟨y, hy, e⟩ := List.mem_map.1 h1
  have h2 := scan_flen y.1 y.2
  rw [e] at h2
  have h3 := told_short hy
  have h4 : (stripL x).2.2.2.1 = x.fs := rfl
  rw [h4] at h2
  omega
theorem fs_set {ys : List LineV} {n i : Nat} {x y : LineV} (h : ∀ x ∈ ys, x.fs.length ≤ n) (hx : ys[i]? = some x) (hy : y.fs = x.fs) : ∀ x ∈ ys.set i y, x.fs.length ≤ n := fun z hz => by
  rcases List.mem_or_eq_of_mem_set hz with hz | rfl
  · exact h z hz
  · rw [hy]; exact h x (List.mem_of_getElem? hx)
/-! ### lists of lines, each with fields of its own: read, and spoilt -/
def NRd (w : World) (v : Value) (xs : List LineV) : Prop := Rd w encLine v xs ∧ ∀ x ∈ xs, Rd w encStr x.v x.fs
section
variable {F : Nat} {w w' : World} {B E k i : Nat} {enc : LineV → List Value} {v v' q : Value} {xs ys : List LineV}
theorem NRd.below (h : NRd w v xs) (hb : Below w.heap.size w w') : NRd w' v xs := ⟨h.1.below hb, fun x hx => (h.2 x hx).below hb⟩
theorem NRow.nrd (h : NRow F w B E k encLine v xs) : NRd w v xs := ⟨h.1.rd, fun x hx => (h.2 x hx).rd⟩
theorem NRd.inner {x : LineV} (h : NRd w v xs) (hx : x ∈ xs) : Rd w encStr x.v x.fs := h.2 x hx
theorem NRd.nil (w : World) : NRd w (.slice none 0 0) [] := ⟨Rd.nil _ _, fun _ h => by cases h⟩
/-- No two lines share a block. -/
def ND (xs : List LineV) : Prop := ∀ (i j : Nat) (x y : LineV) (g : Nat), xs[i]? = some x → xs[j]? = some y → i ≠ j → x.v.ownBlock = some g → y.v.ownBlock ≠ some g
theorem nd_nil : ND [] := fun i j x y g h => by simp at h
theorem nd_snoc {y : LineV} (h : ND xs) (hq : ∀ g, NOwn v xs g → y.v.ownBlock ≠ some g) : ND (xs ++ [y]) := by
  intro i j a b g ha hb hij hg
  by_cases hi : i < xs.length
  · rw [List.getElem?_append_left hi] at ha
    by_cases hj : j < xs.length
    · rw [List.getElem?_append_left hj] at hb
      exact h i j a b g ha hb hij hg
    · have hj2 : j = xs.length := by have := (List.getElem?_eq_some_iff.1 hb).1; simp at this; omega
      subst hj2
      simp at hb; subst hb
      exact hq g (.inr ⟨a, List.mem_of_getElem? ha, hg⟩)
  · have hi2 : i = xs.length := by have := (List.getElem?_eq_some_iff.1 ha).1; simp at this; omega
    subst hi2
    simp at ha; subst ha
    have hj : j < xs.length := by have := (List.getElem?_eq_some_iff.1 hb).1; simp at this; omega
    rw [List.getElem?_append_left hj] at hb
    intro hb2
    exact hq g (.inr ⟨b, List.mem_of_getElem? hb, hb2⟩) hg
theorem apn_call {ys : List (List UInt8)} {k' F' : Nat} (h : NRow F w B E k enc v xs) (hq : Row w' w.heap.size F' k' encStr q ys) : ∀ g, NOwn v xs g → q.ownBlock ≠ some g := fun g hg e => by
  have h1 := (h.lt g hg).2
  have h2 := (World.ownsRow.lt hq g e).1
  omega
/-- A row of lines of which the first i are spoilt. -/
def SRow (F i : Nat) (w : World) (B E k : Nat) (enc : LineV → List Value) (v : Value) (xs : List LineV) : Prop := Row w B E k enc v xs ∧ (∀ (j : Nat) (x : LineV), i ≤ j → xs[j]? = some x → Row w B F 1 encStr x.v x.fs) ∧ ND xs
theorem SRow.of (h : NRow F w B E k enc v xs) (hd : ND xs) : SRow F 0 w B E k enc v xs := ⟨h.1, fun j x _ hx => h.2 x (List.mem_of_getElem? hx), hd⟩
theorem SRow.below (h : SRow F i w B E k enc v xs) (hb : Below w.heap.size w w') : SRow F i w' B E k enc v xs := ⟨h.1.below hb, fun j x hj hx => (h.2.1 j x hj hx).below hb, h.2.2⟩
theorem SRow.rd (h : SRow F i w B E k enc v xs) : Rd w enc v xs := h.1.rd
theorem SRow.shape (h : SRow F i w B E k enc v xs) : SliceOk v xs.length := Row.shape h.1
theorem SRow.inner_at {x : LineV} (h : SRow F i w B E k enc v xs) (hx : xs[i]? = some x) : Row w B F 1 encStr x.v x.fs := h.2.1 i x (Nat.le_refl _) hx
theorem SRow.spoilt {x : LineV} (h : SRow F i w B E k enc v xs) (hx : xs[i]? = some x) (hc : Ch (fun g => x.v.ownBlock = some g) w w') (hE : Nat.beq F E = false) : SRow F (i + 1) w' B E k enc v xs := by
  refine ⟨h.1.ch hc fun g e e2 => ?_, fun j y hj hy => (h.2.1 j y (by omega) hy).ch hc fun g e e2 => ?_, h.2.2⟩
  · rcases (h.inner_at hx).apart h.1 hE with h1 | h1
    · rw [e2] at h1; cases h1
    · exact h1 (by rw [e, e2])
  · exact h.2.2 i j x y g hx hy (by omega) e2 e
theorem SRow.stored {x y : LineV} {j : Nat} (h : SRow F i w B E k enc v xs) (hx : xs[j]? = some x) (hj : j < i) (hr : Row w' B E k enc v (xs.set j y)) (hg : w.grownBy w' v.ownBlock) (hv : y.v = x.v) (hE : Nat.beq F E = false) : SRow F i w' B E k enc v (xs.set j y) := by
  refine ⟨hr, fun l z hl hz => ?_, fun a b z u g hz hu hab => ?_⟩
  · rw [List.getElem?_set, if_neg (by omega)] at hz
    exact (h.2.1 l z hl hz).grown hg ((h.2.1 l z hl hz).apart h.1 hE)
  · have key : ∀ (l : Nat) (z : LineV), (xs.set j y)[l]? = some z → ∃ z', xs[l]? = some z' ∧ z'.v = z.v := by
      intro l z hz
      rw [List.getElem?_set] at hz
      by_cases e : j = l
      · subst e
        rw [if_pos rfl] at hz
        split at hz
        · cases hz; exact ⟨x, hx, hv.symm⟩
        · cases hz
      · rw [if_neg e] at hz; exact ⟨z, hz, rfl⟩
    obtain ⟨z', h1, h2⟩ := key a z hz
    obtain ⟨u', h3, h4⟩ := key b u hu
    rw [← h2, ← h4]
    exact h.2.2 a b z' u' g h1 h3 hab
theorem nown_set {x y : LineV} {j : Nat} (hx : xs[j]? = some x) (hv : y.v = x.v) {g : Nat} (h : NOwn v (xs.set j y) g) : NOwn v xs g := by
  rcases h with h | ⟨z, hz, h⟩
  · exact .inl h
  · obtain ⟨l, hl⟩ := List.mem_iff_getElem?.1 hz
    rw [List.getElem?_set] at hl
    by_cases e : j = l
    · subst e
      rw [if_pos rfl] at hl
      split at hl
      · cases hl; exact .inr ⟨x, List.mem_of_getElem? hx, by rw [← hv]; exact h⟩
      · cases hl
    · rw [if_neg e] at hl; exact .inr ⟨z, List.mem_of_getElem? hl, h⟩
theorem nap_K {K : Nat} (ha : ∀ g, NOwn v xs g → g < K) (hb : ∀ g, NOwn v' ys g → K ≤ g) : NAp v' ys v.ownBlock := by
  have key : ∀ u : Value, (∀ g, u.ownBlock = some g → NOwn v' ys g) → u.ownBlock = none ∨ u.ownBlock ≠ v.ownBlock := by
    intro u hu
    cases hq : u.ownBlock with
    | none => exact .inl rfl
    | some g =>
      refine .inr fun e => ?_
      have h1 := hb g (hu g hq)
      have h2 := ha g (.inl e.symm)
      omega
  exact ⟨key v' fun g e => .inl e, fun x hx => key x.v fun g e => .inr ⟨x, hx, e⟩⟩
theorem ch_K {K : Nat} {x : LineV} (ha : ∀ g, NOwn v xs g → g < K) (hb : ∀ g, NOwn v' ys g → K ≤ g) (hx : x ∈ xs) : ∀ g, NOwn v' ys g → ¬ x.v.ownBlock = some g := fun g hg e => by
  have h1 := hb g hg
  have h2 := ha g (.inr ⟨x, hx, e⟩)
  omega
end
end Go.FK
