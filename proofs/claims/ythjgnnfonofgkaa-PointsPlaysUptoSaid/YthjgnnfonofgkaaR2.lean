/- Joined by my program pack2.py out of my own texts: PPly PPl2 FKaq FKar Wghex FKad FKi FKae WgmS WgnS Wgliv FKaf. -/
import Derived.Test.YthjgnnfonofgkaaProg
import Derived.Tactics2
import Derived.Laws.CopyRow
import Derived.Lib.Overlaps
import Derived.Lib.AppendZerosOnto
import Derived.Test.YthjgnnfonofgkaaR1
set_option linter.unusedVariables false
set_option linter.unusedSimpArgs false
/- === PPly === -/
section
/- PPly: chapter 4's document: a map as the list of what was done to it; its stretches; that they are the map's. My own text. -/
namespace Go.FK
abbrev DoneV := Int × Int × List UInt8 × Bool
abbrev StrV := Int × Int × List UInt8 × Bool
abbrev TV := List UInt8 × Bool
abbrev SpT := SpG (List UInt8)
def inD (x : Int) (d : DoneV) : Bool := decide (d.1 ≤ x ∧ x ≤ d.2.1)
def atD (ds : List DoneV) (x : Int) : TV := match ds.reverse.find? (inD x) with
  | some d => (d.2.2.1, !d.2.2.2)
  | none => ([], false)
theorem atD_snoc (ds : List DoneV) (d : DoneV) (x : Int) : atD (ds ++ [d]) x = if d.1 ≤ x ∧ x ≤ d.2.1 then (d.2.2.1, !d.2.2.2) else atD ds x := by
 unfold atD
 rw [List.reverse_append, List.reverse_singleton, List.singleton_append, List.find?_cons]
 by_cases h : d.1 ≤ x ∧ x ≤ d.2.1
 ·rw [if_pos h, show inD x d = true from decide_eq_true h]
 ·rw [if_neg h, show inD x d = false from decide_eq_false h]
def noD (ds : List DoneV) (x : Int) (k : Nat) : Prop := ∀ j d, k ≤ j → ds[j]? = some d → ¬ (d.1 ≤ x ∧ x ≤ d.2.1)
theorem noD_end (ds : List DoneV) (x : Int) : noD ds x ds.length := fun j d hj hd => by
 rw [List.getElem?_eq_none hj] at hd; cases hd
theorem noD_step {ds : List DoneV} {x : Int} {k : Nat} {d : DoneV} (h : noD ds x (k + 1)) (hd : ds[k]? = some d) (hn : x < d.1 ∨ d.2.1 < x) : noD ds x k := fun j e hj he => by
 rcases Nat.lt_or_ge k j with a | a
 ·exact h j e a he
 ·obtain rfl : j = k := by omega
  rw [hd] at he; cases he; omega
theorem at_suffix {ds : List DoneV} {x : Int} : ∀ {k : Nat}, noD ds x k → k ≤ ds.length → atD ds x = atD (ds.take k) x := by
 have key : ∀ n k, k + n = ds.length → noD ds x k → atD ds x = atD (ds.take k) x := by
  intro n
  induction n with
  | zero => intro k hk _; rw [List.take_of_length_le (by omega)]
  | succ n ih =>
   intro k hk h
   have a : noD ds x (k + 1) := fun j d hj hd => h j d (by omega) hd
   rw [ih (k + 1) (by omega) a]
   have hd : ds[k]? = some (ds[k]'(by omega)) := List.getElem?_eq_getElem _
   have := h k _ (Nat.le_refl _) hd
   rw [List.take_add_one, hd, Option.toList_some, atD_snoc, if_neg this]
 intro k h hk
 exact key (ds.length - k) k (by omega) h
theorem atD_hit {ds : List DoneV} {x : Int} {k : Nat} {d : DoneV} (h : noD ds x (k + 1)) (hd : ds[k]? = some d) (h1 : d.1 ≤ x) (h2 : x ≤ d.2.1) : atD ds x = (d.2.2.1, !d.2.2.2) := by
 have hk := (List.getElem?_eq_some_iff.1 hd).1
 rw [at_suffix h (by omega), List.take_add_one, hd, Option.toList_some, atD_snoc, if_pos ⟨h1, h2⟩]
theorem atD_none {ds : List DoneV} {x : Int} (h : noD ds x 0) : atD ds x = ([], false) := by
 rw [at_suffix h (Nat.zero_le _)]; rfl
def putF' (l : List Int) (x : Int) : Nat := (l.takeWhile fun y => decide (y < x)).length
def addF (l : List Int) (x : Int) : List Int := if l[putF' l x]? = some x then l else l.take (putF' l x) ++ [x] ++ l.drop (putF' l x)
def addI (l : List Int) (x : Int) (k : Nat) : Prop := ∀ j y, j < k → l[j]? = some y → y < x
theorem addI_zero (l : List Int) (x : Int) : addI l x 0 := fun j y h => by omega
theorem addI_step {l : List Int} {x y : Int} {k : Nat} (h : addI l x k) (hy : l[k]? = some y) (hlt : y < x) : addI l x (k + 1) := fun j z hj hz => by
 rcases Nat.lt_or_ge j k with a | a
 ·exact h j z a hz
 ·obtain rfl : j = k := by omega
  rw [hy] at hz; cases hz; exact hlt
theorem put_eq : ∀ {l : List Int} {x : Int} {k : Nat}, addI l x k → k ≤ l.length → (∀ y, l[k]? = some y → x ≤ y) → putF' l x = k
 | [], x, k, h, hk, hs => by simp at hk; subst hk; rfl
 | y :: l, x, 0, h, hk, hs => by
  have := hs y rfl
  unfold putF'; rw [List.takeWhile_cons, if_neg (by simp; omega)]; rfl
 | y :: l, x, k + 1, h, hk, hs => by
  have hy := h 0 y (by omega) rfl
  have a : putF' l x = k := put_eq (fun j z hj hz => h (j + 1) z (by omega) (by simpa using hz)) (by simpa using hk) (fun z hz => hs z (by simpa using hz))
  unfold putF' at *; rw [List.takeWhile_cons, if_pos (by simp; omega), List.length_cons, a]
theorem addF_old {l : List Int} {x y : Int} {k : Nat} (h : addI l x k) (hy : l[k]? = some y) (he : y = x) : addF l x = l := by
 subst he
 have hk := (List.getElem?_eq_some_iff.1 hy).1
 unfold addF; rw [put_eq h (by omega) (fun z hz => by rw [hy] at hz; cases hz; exact Int.le_refl _), if_pos hy]
theorem addF_new {l : List Int} {x y : Int} {k : Nat} (h : addI l x k) (hy : l[k]? = some y) (hn : x ≤ y) (he : y ≠ x) : addF l x = l.take k ++ [x] ++ l.drop k := by
 have hk := (List.getElem?_eq_some_iff.1 hy).1
 unfold addF; rw [put_eq h (by omega) (fun z hz => by rw [hy] at hz; cases hz; exact hn), if_neg (by rw [hy]; intro e; exact he (Option.some.inj e))]
theorem addF_end {l : List Int} {x : Int} {k : Nat} (h : addI l x k) (hk : k ≤ l.length) (hl : l.length ≤ k) : addF l x = l.take k ++ [x] ++ l.drop k := by
 unfold addF; rw [put_eq h hk (fun z hz => by rw [List.getElem?_eq_none hl] at hz; cases hz), if_neg (by rw [List.getElem?_eq_none hl]; simp)]
def Ris (l : List Int) : Prop := l.Pairwise (· < ·)
theorem putF_spec (l : List Int) (x : Int) : (∀ y ∈ l.take (putF' l x), y < x) ∧ (∀ y, l[putF' l x]? = some y → x ≤ y) := by
 unfold putF'
 induction l with
 | nil => simp
 | cons z l ih =>
  rw [List.takeWhile_cons]
  by_cases h : z < x
  ·rw [if_pos (by simpa using h)]
   simp only [List.length_cons, List.take_succ_cons, List.mem_cons, List.getElem?_cons_succ]
   exact ⟨fun y hy => hy.elim (fun e => e ▸ h) (ih.1 y), ih.2⟩
  ·rw [if_neg (by simpa using h)]
   simp only [List.length_nil, List.take_zero, List.not_mem_nil, false_implies, implies_true, true_and, List.getElem?_cons_zero, Option.some.injEq]
   intro y hy; omega
theorem wX {l : List Int} {x y : Int} : y ∈ addF l x ↔ y ∈ l ∨ y = x := by
 unfold addF
 split
 ·rename_i h
  have := List.mem_of_getElem? h
  constructor
  ·exact .inl
  ·rintro (h | rfl)
   ·exact h
   ·exact this
 ·rw [List.mem_append, List.mem_append, List.mem_singleton]
  have := List.take_append_drop (putF' l x) l
  constructor
  ·rintro ((h | h) | h)
   ·exact .inl (List.mem_of_mem_take h)
   ·exact .inr h
   ·exact .inl (List.mem_of_mem_drop h)
  ·rintro (h | h)
   ·rw [← this, List.mem_append] at h
    exact h.elim (fun h => .inl (.inl h)) .inr
   ·exact .inl (.inr h)
theorem addF_ris {l : List Int} {x : Int} (h : Ris l) : Ris (addF l x) := by
 have hs := putF_spec l x
 unfold addF
 split
 ·exact h
 ·rename_i hne
  have hl : Ris (l.take (putF' l x) ++ l.drop (putF' l x)) := by rw [List.take_append_drop]; exact h
  unfold Ris at *
  rw [List.pairwise_append] at hl
  have hgt : ∀ y ∈ l.drop (putF' l x), x < y := by
   intro y hy
   obtain ⟨i, hi⟩ := List.mem_iff_getElem?.1 hy
   rw [List.getElem?_drop] at hi
   have hlen := (List.getElem?_eq_some_iff.1 hi).1
   have hz : l[putF' l x]? = some (l[putF' l x]'(by omega)) := List.getElem?_eq_getElem _
   have hx := hs.2 _ hz
   have c : l[putF' l x]'(by omega) ≠ x := fun e => hne (by rw [hz, e])
   cases i with
   | zero => rw [Nat.add_zero] at hi; rw [hz] at hi; cases hi; omega
   | succ i =>
    have f := List.pairwise_iff_getElem.1 h (putF' l x) (putF' l x + (i + 1)) (by omega) hlen (by omega)
    have d := (List.getElem?_eq_some_iff.1 hi).2
    rw [d] at f; omega
  rw [List.append_assoc, List.pairwise_append]
  refine ⟨hl.1, ?_, ?_⟩
  ·rw [List.singleton_append, List.pairwise_cons]; exact ⟨hgt, hl.2.1⟩
  ·intro a ha b hb
   rcases List.mem_cons.1 hb with rfl | hb
   ·exact hs.1 a ha
   ·exact hl.2.2 a ha b hb
def edgF (ds : List DoneV) : List Int := ds.foldl (fun l d => addF (addF l d.1) (d.2.1 + 1)) [0, 1114112]
theorem edgF_snoc (ds : List DoneV) (d : DoneV) : edgF (ds ++ [d]) = addF (addF (edgF ds) d.1) (d.2.1 + 1) := by unfold edgF; rw [List.foldl_append]; rfl
theorem edgF_take {ds : List DoneV} {i : Nat} {d : DoneV} (h : ds[i]? = some d) : addF (addF (edgF (ds.take i)) d.1) (d.2.1 + 1) = edgF (ds.take (i + 1)) := by
 rw [List.take_add_one, h, Option.toList_some, edgF_snoc]
def okD (d : DoneV) : Prop := 0 ≤ d.1 ∧ d.1 ≤ d.2.1 ∧ d.2.1 ≤ 1114111 ∧ (d.2.2.2 = true → d.2.2.1 = [])
def OkD (ds : List DoneV) : Prop := ∀ d ∈ ds, okD d
theorem OkD.at {ds : List DoneV} {i : Nat} {d : DoneV} (h : OkD ds) (hd : ds[i]? = some d) : okD d := h d (List.mem_of_getElem? hd)
structure Edg (ds : List DoneV) (e : List Int) : Prop where
  ris : Ris e
  bd : ∀ y ∈ e, 0 ≤ y ∧ y ≤ 1114112
  zero : (0 : Int) ∈ e
  top : (1114112 : Int) ∈ e
  has : ∀ d ∈ ds, d.1 ∈ e ∧ d.2.1 + 1 ∈ e
theorem edg_zero : Edg [] [0, 1114112] := ⟨by simp [Ris], by simp, by simp, by simp, by simp⟩
theorem Edg.snoc {ds : List DoneV} {e : List Int} {d : DoneV} (h : Edg ds e) (hd : okD d) : Edg (ds ++ [d]) (addF (addF e d.1) (d.2.1 + 1)) := by
 obtain ⟨a, b, c, _⟩ := hd
 refine ⟨addF_ris (addF_ris h.ris), ?_, wX.2 (.inl (wX.2 (.inl h.zero))), wX.2 (.inl (wX.2 (.inl h.top))), ?_⟩
 ·intro y hy
  rcases wX.1 hy with hy | rfl
  ·rcases wX.1 hy with hy | rfl
   ·exact h.bd y hy
   ·omega
  ·omega
 ·intro x hx
  rcases List.mem_append.1 hx with hx | hx
  ·have := h.has x hx
   exact ⟨wX.2 (.inl (wX.2 (.inl this.1))), wX.2 (.inl (wX.2 (.inl this.2)))⟩
  ·obtain rfl := List.mem_singleton.1 hx
   exact ⟨wX.2 (.inl (wX.2 (.inr rfl))), wX.2 (.inr rfl)⟩
theorem edg_snocs : ∀ (l : List DoneV) {ds : List DoneV} {e : List Int}, Edg ds e → OkD l → Edg (ds ++ l) (l.foldl (fun l d => addF (addF l d.1) (d.2.1 + 1)) e)
 | [], ds, e, h, _ => by rw [List.append_nil]; exact h
 | d :: l, ds, e, h, hl => by
  rw [List.foldl_cons, show ds ++ d :: l = (ds ++ [d]) ++ l by simp]
  exact edg_snocs l (h.snoc (hl d (List.mem_cons_self ..))) (fun x hx => hl x (List.mem_cons_of_mem _ hx))
theorem edg_of {ds : List DoneV} (h : OkD ds) : Edg ds (edgF ds) := by
 have := edg_snocs ds edg_zero h
 rwa [List.nil_append] at this
theorem OkD.take {ds : List DoneV} (h : OkD ds) (i : Nat) : OkD (ds.take i) := fun d hd => h d (List.mem_of_mem_take hd)
theorem ris_len : ∀ {l : List Int} {b : Int}, Ris l → (∀ y ∈ l, b ≤ y ∧ y ≤ 1114112) → b ≤ 1114113 → (l.length : Int) + b ≤ 1114113
 | [], b, _, _, h => by simpa using h
 | x :: l, b, hr, hb, h => by
  have hx := hb x (List.mem_cons_self ..)
  have a := List.pairwise_cons.1 hr
  have := ris_len (l := l) (b := x + 1) a.2 (fun y hy => ⟨by have := a.1 y hy; omega, (hb y (List.mem_cons_of_mem _ hy)).2⟩) (by omega)
  rw [List.length_cons]; omega
theorem Edg.len {ds : List DoneV} {e : List Int} (h : Edg ds e) : e.length ≤ 1114113 := by
 have := ris_len h.ris h.bd (by omega); omega
theorem Edg.pos {ds : List DoneV} {e : List Int} (h : Edg ds e) : 0 < e.length := List.length_pos_of_mem h.zero
theorem Edg.first {ds : List DoneV} {e : List Int} (h : Edg ds e) : e[0]? = some 0 := by
 cases he : e with
 | nil => have := h.zero; rw [he] at this; cases this
 | cons x l =>
  have a := h.zero; have b := h.bd; have c := h.ris
  rw [he] at a b c
  rcases List.mem_cons.1 a with d | a
  ·rw [← d]; rfl
  ·have := (List.pairwise_cons.1 c).1 0 a
   have := b x (List.mem_cons_self ..); omega
theorem Edg.last {ds : List DoneV} {e : List Int} {i : Nat} {y : Int} (h : Edg ds e) (hi : e.length ≤ i + 1) (hy : e[i]? = some y) : y = 1114112 := by
 obtain ⟨j, hj⟩ := List.mem_iff_getElem?.1 h.top
 have a := (List.getElem?_eq_some_iff.1 hj).1
 have b := (List.getElem?_eq_some_iff.1 hy).1
 have hb := (h.bd y (List.mem_of_getElem? hy)).2
 rcases Nat.lt_or_ge j i with hji | hji
 ·have := List.pairwise_iff_getElem.1 h.ris j i a b hji
  rw [(List.getElem?_eq_some_iff.1 hj).2, (List.getElem?_eq_some_iff.1 hy).2] at this; omega
 ·obtain rfl : j = i := by omega
  rw [hj] at hy; exact (Option.some.inj hy).symm
theorem Edg.lt {ds : List DoneV} {e : List Int} {i : Nat} {a b : Int} (h : Edg ds e) (ha : e[i]? = some a) (hb : e[i + 1]? = some b) : 0 ≤ a ∧ a < b ∧ b ≤ 1114112 := by
 have c := List.pairwise_iff_getElem.1 h.ris i (i + 1) (List.getElem?_eq_some_iff.1 ha).1 (List.getElem?_eq_some_iff.1 hb).1 (by omega)
 rw [(List.getElem?_eq_some_iff.1 ha).2, (List.getElem?_eq_some_iff.1 hb).2] at c
 exact ⟨(h.bd a (List.mem_of_getElem? ha)).1, c, (h.bd b (List.mem_of_getElem? hb)).2⟩
theorem Edg.btw {ds : List DoneV} {e : List Int} {i : Nat} {a b y : Int} (h : Edg ds e) (ha : e[i]? = some a) (hb : e[i + 1]? = some b) (hy : y ∈ e) : y ≤ a ∨ b ≤ y := by
 obtain ⟨j, hj⟩ := List.mem_iff_getElem?.1 hy
 have c := (List.getElem?_eq_some_iff.1 hj).1
 have f := (List.getElem?_eq_some_iff.1 ha).1
 have d := (List.getElem?_eq_some_iff.1 hb).1
 rcases Nat.lt_trichotomy j i with hji | hji | hji
 ·have := List.pairwise_iff_getElem.1 h.ris j i c f hji
  rw [(List.getElem?_eq_some_iff.1 hj).2, (List.getElem?_eq_some_iff.1 ha).2] at this; omega
 ·subst hji; rw [hj] at ha; cases ha; omega
 ·rcases Nat.lt_or_ge (i + 1) j with hk | hk
  ·have := List.pairwise_iff_getElem.1 h.ris (i + 1) j d c hk
   rw [(List.getElem?_eq_some_iff.1 hj).2, (List.getElem?_eq_some_iff.1 hb).2] at this; omega
  ·obtain rfl : j = i + 1 := by omega
   rw [hj] at hb; cases hb; omega
theorem atD_congr {x y : Int} : ∀ {l : List DoneV}, (∀ d ∈ l, (d.1 ≤ x ∧ x ≤ d.2.1) ↔ (d.1 ≤ y ∧ y ≤ d.2.1)) → atD l x = atD l y := by
 intro l h
 unfold atD
 have key : ∀ {l : List DoneV}, (∀ d ∈ l, (d.1 ≤ x ∧ x ≤ d.2.1) ↔ (d.1 ≤ y ∧ y ≤ d.2.1)) → l.find? (inD x) = l.find? (inD y) := by
  intro l
  induction l with
  | nil => intro _; rfl
  | cons d l ih =>
   intro h
   have hd : inD x d = inD y d := by unfold inD; simp only [h d (List.mem_cons_self ..)]
   rw [List.find?_cons, List.find?_cons, hd, ih (fun e he => h e (List.mem_cons_of_mem _ he))]
 rw [key (fun d hd => h d (List.mem_reverse.1 hd))]
theorem Edg.same {ds : List DoneV} {e : List Int} {i : Nat} {a b x : Int} (h : Edg ds e) (ha : e[i]? = some a) (hb : e[i + 1]? = some b) (h1 : a ≤ x) (h2 : x < b) : atD ds x = atD ds a :=
 atD_congr fun d hd => by
  have hh := h.has d hd
  have f := h.btw ha hb hh.1
  have c := h.btw ha hb hh.2
  constructor <;> intro _ <;> omega
def Pt (f : Int → TV) (b : Int) : List StrV → Int → Prop
  | [], c => b = c
  | s :: l, c => s.1 = b ∧ s.1 ≤ s.2.1 ∧ (∀ x, s.1 ≤ x → x ≤ s.2.1 → f x = s.2.2) ∧ (∀ t, l.head? = some t → t.2.2 ≠ s.2.2) ∧ Pt f (s.2.1 + 1) l c
theorem Pt.le {f : Int → TV} : ∀ {l : List StrV} {b c : Int}, Pt f b l c → b ≤ c
 | [], b, c, h => by have : b = c := h; omega
 | s :: l, b, c, h => by have := h.2.2.2.2.le; have := h.1; have := h.2.1; omega
theorem pt_one {f : Int → TV} : ∀ {l m : List StrV} {b c : Int}, Pt f b l c → Pt f b m c → l = m
 | [], [], _, _, _, _ => rfl
 | [], t :: m, b, c, d, a => by
  have : b = c := d
  have := a.2.2.2.2.le; have := a.1; have := a.2.1; omega
 | s :: l, [], b, c, d, a => by
  have : b = c := a
  have := d.2.2.2.2.le; have := d.1; have := d.2.1; omega
 | s :: l, t :: m, b, c, d, a => by
  obtain ⟨g, r, n, q, j⟩ := d
  obtain ⟨i, c2, o, y, k⟩ := a
  have hv : s.2.2 = t.2.2 := (n b (by omega) (by omega)).symm.trans (o b (by omega) (by omega))
  have short : ∀ {s t : StrV} {l m : List StrV}, s.1 = t.1 → s.2.2 = t.2.2 → s.1 ≤ s.2.1 → s.2.1 < t.2.1 → (∀ x, t.1 ≤ x → x ≤ t.2.1 → f x = t.2.2) → (∀ t, l.head? = some t → t.2.2 ≠ s.2.2) → Pt f (s.2.1 + 1) l c → Pt f (t.2.1 + 1) m c → False := by
   intro s t l m e1 p d a w v e z
   cases l with
   | nil => have : s.2.1 + 1 = c := e; have := z.le; omega
   | cons u l =>
    refine v u rfl ?_
    rw [p, ← w (s.2.1 + 1) (by omega) (by omega)]
    exact (e.2.2.1 _ (by have := e.1; omega) (by have := e.1; have := e.2.1; omega)).symm
  have hh : s.2.1 = t.2.1 := by
   rcases Int.lt_trichotomy s.2.1 t.2.1 with h | h | h
   ·exact (short (g.trans i.symm) hv r h o q j k).elim
   ·exact h
   ·exact (short (i.trans g.symm) hv.symm c2 h n y k j).elim
  have hst : s = t := Prod.ext (g.trans i.symm) (Prod.ext hh hv)
  subst hst
  rw [pt_one j k]
theorem pt_snoc {f : Int → TV} {lo hi : Int} {v : TV} : ∀ {l : List StrV} {b : Int}, Pt f b l lo → lo ≤ hi → (∀ x, lo ≤ x → x ≤ hi → f x = v) → (∀ t, l.getLast? = some t → v ≠ t.2.2) → Pt f b (l ++ [(lo, hi, v)]) (hi + 1)
 | [], b, h, h1, h2, _ => by
  have : b = lo := h
  exact ⟨this.symm, h1, h2, by simp, rfl⟩
 | s :: l, b, h, h1, h2, h3 => by
  refine ⟨h.1, h.2.1, h.2.2.1, ?_, pt_snoc h.2.2.2.2 h1 h2 (fun t ht => h3 t ?_)⟩
  ·intro t ht
   cases l with
   | nil => simp at ht; subst ht; exact h3 s rfl
   | cons u l => exact h.2.2.2.1 t (by simpa using ht)
  ·rw [List.getLast?_cons, ht]; rfl
theorem pt_ext {f : Int → TV} {lo hi z : Int} {v : TV} : ∀ {l : List StrV} {b : Int}, Pt f b (l ++ [(lo, hi, v)]) (hi + 1) → hi < z → (∀ x, hi + 1 ≤ x → x ≤ z → f x = v) → Pt f b (l ++ [(lo, z, v)]) (z + 1)
 | [], b, h, h1, h2 => ⟨h.1, by have := h.2.1; simp only at *; omega, fun x hx hx2 => by
   rcases Int.lt_or_le hi x with a | a
   ·exact h2 x (by omega) hx2
   ·exact h.2.2.1 x hx a, by simp, rfl⟩
 | s :: l, b, h, h1, h2 => by
  refine ⟨h.1, h.2.1, h.2.2.1, fun t ht => h.2.2.2.1 ⟨t.1, if l = [] then hi else t.2.1, t.2.2⟩ ?_, pt_ext h.2.2.2.2 h1 h2⟩
  cases l with
  | nil => simp at ht; subst ht; simp
  | cons u l => simp at ht; subst ht; simp
def stS (f : Int → TV) (out : List StrV) (a b : Int) : List StrV := match out.getLast? with
  | some s => if s.2.2 = f a then out.dropLast ++ [(s.1, b - 1, s.2.2)] else out ++ [(a, b - 1, f a)]
  | none => out ++ [(a, b - 1, f a)]
def stN (f : Int → TV) (e : List Int) : Nat → List StrV
  | 0 => []
  | i + 1 => match e[i]?, e[i + 1]? with
    | some a, some b => stS f (stN f e i) a b
    | _, _ => stN f e i
def strF (ds : List DoneV) : List StrV := stN (atD ds) (edgF ds) ((edgF ds).length - 1)
theorem stN_at {f : Int → TV} {e : List Int} {i : Nat} {a b : Int} (ha : e[i]? = some a) (hb : e[i + 1]? = some b) : stN f e (i + 1) = stS f (stN f e i) a b := by
 show (match e[i]?, e[i + 1]? with | some a, some b => stS f (stN f e i) a b | _, _ => stN f e i) = _
 rw [ha, hb]
theorem last_get {α : Type} {l : List α} {n : Nat} {x : α} (hn : n + 1 = l.length) (h : l[n]? = some x) : l.getLast? = some x := by
 rw [List.getLast?_eq_getElem?, ← hn, Nat.add_sub_cancel]; exact h
theorem set_last {α : Type} {l : List α} {n : Nat} {x : α} (hn : n + 1 = l.length) : l.set n x = l.dropLast ++ [x] := by
 rcases List.eq_nil_or_concat l with rfl | ⟨l', b, rfl⟩
 ·simp at hn
 ·simp at hn; subst hn; simp
theorem stS_on {f : Int → TV} {out : List StrV} {a b : Int} {n : Nat} {s : StrV} (hn : n + 1 = out.length) (hs : out[n]? = some s) (h1 : s.2.2.1 = (f a).1) (h2 : s.2.2.2 = (f a).2) : out.set n (s.1, b - 1, s.2.2.1, s.2.2.2) = stS f out a b := by
 unfold stS; rw [last_get hn hs]; simp only; rw [if_pos (Prod.ext h1 h2), set_last hn]
theorem stS_new {f : Int → TV} {out : List StrV} {a b : Int} {n : Nat} {s : StrV} (hn : n + 1 = out.length) (hs : out[n]? = some s) (h : s.2.2.1 ≠ (f a).1 ∨ s.2.2.2 ≠ (f a).2) : out ++ [(a, b - 1, (f a).1, (f a).2)] = stS f out a b := by
 unfold stS; rw [last_get hn hs]; simp only; rw [if_neg (fun e => by rw [e] at h; exact h.elim (fun h => h rfl) (fun h => h rfl))]
theorem stS_first {f : Int → TV} {out : List StrV} {a b : Int} (h : out.length = 0) : out ++ [(a, b - 1, (f a).1, (f a).2)] = stS f out a b := by
 cases out with
 | nil => rfl
 | cons s l => simp at h
theorem stS_on2 {f : Int → TV} {out : List StrV} {a b : Int} {n : Nat} {s : StrV} {c : Bool} (hn : n + 1 = out.length) (hs : out[n]? = some s) (h1 : s.2.2.1 = (f a).1) (h2 : s.2.2.2 = c) (h3 : (f a).2 = c) : out.set n (s.1, b - 1, s.2.2.1, s.2.2.2) = stS f out a b := stS_on hn hs h1 (h2.trans h3.symm)
theorem xG {f : Int → TV} {out : List StrV} {a b : Int} {n : Nat} {s : StrV} {c : Bool} (hn : n + 1 = out.length) (hs : out[n]? = some s) (h3 : (f a).2 = c) (h : s.2.2.1 ≠ (f a).1 ∨ s.2.2.2 = !c) : out ++ [(a, b - 1, (f a).1, c)] = stS f out a b := by
 subst h3
 exact stS_new hn hs (h.imp id (fun h e => by rw [e] at h; cases hq : (f a).2 <;> rw [hq] at h <;> cases h))
theorem qL {f : Int → TV} {out : List StrV} {a b : Int} {c : Bool} (h : out.length = 0) (h3 : (f a).2 = c) : out ++ [(a, b - 1, (f a).1, c)] = stS f out a b := h3 ▸ stS_first h
theorem stS_pt {f : Int → TV} {out : List StrV} {a b : Int} (h : Pt f 0 out a) (hab : a < b) (hc : ∀ x, a ≤ x → x < b → f x = f a) : Pt f 0 (stS f out a b) b := by
 unfold stS
 cases hl : out.getLast? with
 | none =>
  simp only
  have := pt_snoc (hi := b - 1) h (by omega) (fun x h1 h2 => hc x h1 (by omega)) (fun t ht => by rw [hl] at ht; cases ht)
  rwa [show b - 1 + 1 = b by omega] at this
 | some s =>
  simp only
  split
  ·rename_i he
   obtain ⟨l, rfl⟩ := List.getLast?_eq_some_iff.1 hl
   rw [List.dropLast_concat]
   have hz : s.2.1 + 1 = a := by
    have key : ∀ {l : List StrV} {c : Int}, Pt f c (l ++ [s]) a → s.2.1 + 1 = a := by
     intro l
     induction l with
     | nil => intro c h; exact h.2.2.2.2
     | cons t l ih => intro c h; exact ih h.2.2.2.2
    exact key h
   have h' : Pt f 0 (l ++ [(s.1, s.2.1, s.2.2)]) (s.2.1 + 1) := by rw [hz]; exact h
   have := pt_ext (z := b - 1) h' (by omega) (fun x h1 h2 => by rw [hc x (by omega) (by omega)]; exact he.symm)
   rwa [show b - 1 + 1 = b by omega] at this
  ·rename_i he
   have := pt_snoc (hi := b - 1) h (by omega) (fun x h1 h2 => hc x h1 (by omega)) (fun t ht => by rw [hl] at ht; cases ht; exact fun e => he e.symm)
   rwa [show b - 1 + 1 = b by omega] at this
theorem stN_pt {ds : List DoneV} {e : List Int} (h : Edg ds e) : ∀ {i : Nat} {a : Int}, e[i]? = some a → Pt (atD ds) 0 (stN (atD ds) e i) a
 | 0, a, ha => by rw [h.first] at ha; exact Option.some.inj ha
 | i + 1, b, hb => by
  have hi := (List.getElem?_eq_some_iff.1 hb).1
  have ha : e[i]? = some (e[i]'(by omega)) := List.getElem?_eq_getElem _
  rw [stN_at ha hb]
  exact stS_pt (stN_pt h ha) (h.lt ha hb).2.1 (fun x h1 h2 => h.same ha hb h1 h2)
theorem strF_pt {ds : List DoneV} (h : OkD ds) : Pt (atD ds) 0 (strF ds) 1114112 := by
 have he := edg_of h
 have hp := he.pos
 have ha : (edgF ds)[(edgF ds).length - 1]? = some ((edgF ds)[(edgF ds).length - 1]'(by omega)) := List.getElem?_eq_getElem _
 have := stN_pt he ha
 rwa [he.last (by omega) ha] at this
theorem Pt.len {f : Int → TV} : ∀ {l : List StrV} {b c : Int}, Pt f b l c → (l.length : Int) ≤ c - b
 | [], b, c, h => by have : b = c := h; simp; omega
 | s :: l, b, c, h => by have := h.2.2.2.2.len; have := h.1; have := h.2.1; rw [List.length_cons]; omega
def tvO : Option (List UInt8) → TV
  | some v => (v, true)
  | none => ([], false)
def mixF : Int → List SpT → List StrV
  | b, [] => if b ≤ 1114111 then [(b, 1114111, [], false)] else []
  | b, s :: l => (if b < s.1 then [(b, s.1 - 1, [], false)] else []) ++ (s.1, s.2.1, s.2.2, true) :: mixF (s.2.1 + 1) l
theorem mix_head {l : List SpT} {b : Int} {t : StrV} {v : List UInt8} (hr : RiseG b l) (hc : CanG eqS (some (b - 1, v)) l) (h : (mixF b l).head? = some t) : t.2.2 ≠ (v, true) := by
 cases l with
 | nil =>
  unfold mixF at h
  split at h
  ·simp at h; subst h; intro e; cases congrArg Prod.snd e
  ·simp at h
 | cons s l =>
  unfold mixF at h
  split at h
  ·simp at h; subst h; intro e; cases congrArg Prod.snd e
  ·simp at h; subst h
   intro e
   have a := hc.1 _ _ rfl (by have := hr.1; omega)
   have c : s.2.2 = v := congrArg Prod.fst e
   rw [c] at a; unfold eqS at a; simp at a
theorem mix_pt {f : Int → TV} : ∀ {l : List SpT} {b : Int} {p : Option (Int × List UInt8)}, RiseG b l → b ≤ 1114112 → CanG eqS p l → (∀ x, b ≤ x → x ≤ 1114111 → f x = tvO (valG l x)) → Pt f b (mixF b l) 1114112
 | [], b, p, _, hb, _, hf => by
  unfold mixF
  split
  ·exact ⟨rfl, by assumption, fun x h1 h2 => hf x h1 h2, by simp, rfl⟩
  ·show b = _; omega
 | s :: l, b, p, hr, hb, hc, hf => by
  obtain ⟨h, g, i, d⟩ := hr
  have ht : Pt f s.1 ((s.1, s.2.1, s.2.2, true) :: mixF (s.2.1 + 1) l) 1114112 := by
   refine ⟨rfl, g, fun x h1 h2 => ?_, fun t ht => ?_, mix_pt d (by show s.2.1 + 1 ≤ _; omega) hc.2 (fun x h1 h2 => ?_)⟩
   ·have a : s.1 ≤ x := h1
    have c : x ≤ s.2.1 := h2
    rw [hf x (by omega) (by omega), wD ⟨a, c⟩]; rfl
   ·exact mix_head d (by rw [show s.2.1 + 1 - 1 = s.2.1 by omega]; exact hc.2) ht
   ·have a : s.2.1 + 1 ≤ x := h1
    rw [hf x (by omega) h2, wA (by omega)]
  unfold mixF
  split
  ·refine ⟨rfl, by simp only; omega, fun x h1 h2 => ?_, fun t ht => ?_, ?_⟩
   ·have a : b ≤ x := h1
    have c : x ≤ s.1 - 1 := h2
    rw [hf x a (by omega), wA (by omega), d.low (by omega)]; rfl
   ·simp at ht; subst ht; intro e; cases congrArg Prod.snd e
   ·show Pt f (s.1 - 1 + 1) _ _
    rw [show s.1 - 1 + 1 = s.1 by omega]; exact ht
  ·have : s.1 = b := by omega
   rw [List.nil_append, ← this]; exact ht
def ptsF (l : List StrV) : List StrV := l.filter fun s => s.2.2.2
def gapF (l : List StrV) : List StrV := l.filter fun s => !s.2.2.2
def spS (s : SpT) : StrV := (s.1, s.2.1, s.2.2, true)
def rgS (r : Int × Int) : StrV := (r.1, r.2, [], false)
theorem mixF_cons (b : Int) (s : SpT) (l : List SpT) : mixF b (s :: l) = (if b < s.1 then [(b, s.1 - 1, [], false)] else []) ++ (s.1, s.2.1, s.2.2, true) :: mixF (s.2.1 + 1) l := rfl
theorem mix_pts : ∀ (l : List SpT) (b : Int), ptsF (mixF b l) = l.map spS
 | [], b => by unfold mixF ptsF; split <;> simp
 | s :: l, b => by
  have := mix_pts l (s.2.1 + 1)
  unfold ptsF at *; rw [mixF_cons, List.filter_append, List.filter_cons, if_pos rfl, this]
  split <;> simp [spS]
theorem gaps_cons : ∀ (l : List SpT) (g : List (Int × Int)) (b : Int), (l.foldl gapStep (g, b)).1 = g ++ (l.foldl gapStep ([], b)).1
 | [], g, b => by simp
 | s :: l, g, b => by
  show (l.foldl gapStep (if b < s.1 then g ++ [(b, s.1 - 1)] else g, s.2.1 + 1)).1 = g ++ (l.foldl gapStep (if b < s.1 then [] ++ [(b, s.1 - 1)] else [], s.2.1 + 1)).1
  rw [gaps_cons l (if b < s.1 then g ++ [(b, s.1 - 1)] else g), gaps_cons l (if b < s.1 then [] ++ [(b, s.1 - 1)] else [])]
  split <;> simp
theorem gaps_next : ∀ (l : List SpT) (g h : List (Int × Int)) (z : Int), (l.foldl gapStep (g, z)).2 = (l.foldl gapStep (h, z)).2
 | [], _, _, _ => rfl
 | s :: l, _, _, _ => gaps_next l _ _ _
theorem mix_gaps : ∀ (l : List SpT) (b : Int), gapF (mixF b l) = ((l.foldl gapStep ([], b)).1 ++ if (l.foldl gapStep ([], b)).2 ≤ 1114111 then [((l.foldl gapStep ([], b)).2, 1114111)] else []).map rgS
 | [], b => by
  show gapF (if b ≤ 1114111 then [(b, 1114111, [], false)] else []) = ([] ++ if b ≤ 1114111 then [((b, 1114111) : Int × Int)] else []).map rgS
  by_cases h : b ≤ 1114111
  ·rw [if_pos h, if_pos h]; rfl
  ·rw [if_neg h, if_neg h]; rfl
 | s :: l, b => by
  have ih := mix_gaps l (s.2.1 + 1)
  have a : gapF (mixF b (s :: l)) = gapF (if b < s.1 then [(b, s.1 - 1, [], false)] else []) ++ gapF (mixF (s.2.1 + 1) l) := List.filter_append ..
  have c : (s :: l).foldl gapStep ([], b) = l.foldl gapStep (if b < s.1 then [] ++ [(b, s.1 - 1)] else [], s.2.1 + 1) := rfl
  rw [a, c, ih, gaps_next l (if b < s.1 then [] ++ [(b, s.1 - 1)] else []) [], gaps_cons l (if b < s.1 then [] ++ [(b, s.1 - 1)] else []), List.append_assoc, List.map_append (l₁ := if b < s.1 then [] ++ [(b, s.1 - 1)] else [])]
  congr 1
  by_cases h : b < s.1
  ·rw [if_pos h, if_pos h]; rfl
  ·rw [if_neg h, if_neg h]; rfl
structure Rel (xs : List SpT) (ds : List DoneV) : Prop where
  rise : RiseG 0 xs
  can : CanG eqS none xs
  ok : OkD ds
  val : ∀ x, 0 ≤ x → x ≤ 1114111 → atD ds x = tvO (valG xs x)
variable {xs ys : List SpT} {ds es : List DoneV}
theorem Rel.str (h : Rel xs ds) : strF ds = mixF 0 xs := pt_one (strF_pt h.ok) (mix_pt h.rise (by omega) h.can h.val)
theorem Rel.pts (h : Rel xs ds) : ptsF (strF ds) = xs.map spS := by rw [h.str, mix_pts]
theorem Rel.gaps (h : Rel xs ds) : gapF (strF ds) = (gapsG xs).map rgS := by
 rw [h.str, mix_gaps]; unfold gapsG gapsP; rw [step_next]
theorem Rel.same (h : Rel xs ds) (k : Rel ys es) : decide (strF ds = strF es) = decide (xs = ys) := by
 congr 1
 apply propext
 constructor
 ·intro e
  have c := h.pts; rw [e, k.pts] at c
  have hi : Function.Injective spS := fun a b e => by
   have g := congrArg (·.1) e; have d := congrArg (·.2.1) e; have f := congrArg (·.2.2.1) e
   exact Prod.ext g (Prod.ext d f)
  exact ((List.map_inj_right hi).1 c).symm
 ·rintro rfl; rw [h.str, k.str]
def ovl (lo hi : Int) (s : StrV) : Int := if max s.1 lo ≤ min s.2.1 hi then min s.2.1 hi - max s.1 lo + 1 else 0
def szF (l : List StrV) (lo hi : Int) : Int := l.foldl (fun n s => n + ovl lo hi s) 0
theorem szF_take {l : List StrV} {lo hi : Int} {i : Nat} {s : StrV} (h : l[i]? = some s) : szF (l.take (i + 1)) lo hi = szF (l.take i) lo hi + ovl lo hi s := by
 unfold szF; rw [List.take_add_one, h, Option.toList_some, List.foldl_append]; rfl
theorem ovl_yes {lo hi : Int} {s : StrV} (h : max s.1 lo ≤ min s.2.1 hi) : ovl lo hi s = min s.2.1 hi - max s.1 lo + 1 := if_pos h
theorem ovl_no {lo hi : Int} {s : StrV} (h : min s.2.1 hi < max s.1 lo) : ovl lo hi s = 0 := if_neg (by omega)
def InS (l : List StrV) : Prop := ∀ s ∈ l, 0 ≤ s.1 ∧ s.1 ≤ s.2.1 ∧ s.2.1 ≤ 1114111
theorem InS.at {l : List StrV} {i : Nat} {s : StrV} (h : InS l) (hs : l[i]? = some s) : 0 ≤ s.1 ∧ s.1 ≤ s.2.1 ∧ s.2.1 ≤ 1114111 := h s (List.mem_of_getElem? hs)
theorem szF_bd {l : List StrV} {lo hi : Int} (h : InS l) : ∀ {i : Nat}, i ≤ l.length → 0 ≤ szF (l.take i) lo hi ∧ szF (l.take i) lo hi ≤ 1114112 * i
 | 0, _ => by simp [szF]
 | i + 1, hlen => by
  have hs : l[i]? = some (l[i]'(by omega)) := List.getElem?_eq_getElem _
  have := szF_bd (lo := lo) (hi := hi) h (i := i) (by omega)
  have a := h.at hs
  rw [szF_take hs]
  unfold ovl
  split <;> omega
theorem ov_zero {lo hi : Int} : ∀ {l : List SpT} {b : Int} {n : Int}, RiseG b l → hi < b → (l.map spS).foldl (fun n s => n + ovl lo hi s) n = n
 | [], _, _, _, _ => rfl
 | s :: l, b, n, h, hb => by
  rw [List.map_cons, List.foldl_cons, ovl_no (by show min s.2.1 hi < max s.1 lo; have := h.1; omega), Int.add_zero]
  exact ov_zero h.2.2.2 (by have := h.1; have := h.2.1; omega)
theorem ov_cnt {lo hi : Int} (hlh : lo ≤ hi) : ∀ {l : List SpT} {b : Int} {n : Int}, RiseG b l → (l.map spS).foldl (fun n s => n + ovl lo hi s) n = n + cntG lo hi l
 | [], _, _, _ => by simp [cntG]
 | s :: l, b, n, h => by
  obtain ⟨g, e, f, a⟩ := h
  rw [cntG_cons]
  by_cases d : s.2.1 < lo
  ·rw [if_pos d, List.map_cons, List.foldl_cons, ovl_no (by show min s.2.1 hi < max s.1 lo; omega), Int.add_zero]
   exact ov_cnt hlh a
  ·rw [if_neg d]
   by_cases c : hi < s.1
   ·have hr : RiseG s.1 (s :: l) := ⟨Int.le_refl _, e, f, a⟩
    rw [if_pos c, ov_zero hr c, Int.add_zero]
   ·rw [if_neg c, List.map_cons, List.foldl_cons, ovl_yes (by show max s.1 lo ≤ min s.2.1 hi; omega), ov_cnt hlh a]
    show n + (min s.2.1 hi - max s.1 lo + 1) + _ = _
    omega
theorem Rel.size (h : Rel xs ds) {lo hi : Int} (hlh : lo ≤ hi) : szF (ptsF (strF ds)) lo hi = cntG lo hi xs := by
 rw [h.pts]; unfold szF; rw [ov_cnt hlh h.rise, Int.zero_add]
theorem cnt_all : ∀ {l : List SpT} {b n : Int}, 0 ≤ b → RiseG b l → l.foldl (fun n s => n + (s.2.1 - s.1 + 1)) n = n + cntG 0 1114111 l
 | [], _, _, _, _ => by simp [cntG]
 | s :: l, b, n, hb, h => by
  obtain ⟨c, e, d, a⟩ := h
  rw [cntG_cons, if_neg (by omega), if_neg (by omega), List.foldl_cons, cnt_all (b := s.2.1 + 1) (by omega) a]
  omega
theorem Rel.whole (h : Rel xs ds) : szF (ptsF (strF ds)) 0 1114111 = sizeG xs := by
 rw [h.size (by omega)]; unfold sizeG; rw [cnt_all (Int.le_refl 0) h.rise, Int.zero_add]
theorem cnt_met {lo hi : Int} (hlh : lo ≤ hi) : ∀ {l : List SpT} {b : Int}, RiseG b l → 0 ≤ cntG lo hi l ∧ (cntG lo hi l = 0 ↔ ∀ x, lo ≤ x → x ≤ hi → valG l x = none)
 | [], _, _ => by simp [cntG, valG_nil]
 | s :: l, b, h => by
  obtain ⟨i, f, g, c⟩ := h
  have ih := cnt_met hlh c
  rw [cntG_cons]
  by_cases a : s.2.1 < lo
  ·rw [if_pos a]
   refine ⟨ih.1, ih.2.trans ⟨fun h x hx hx2 => ?_, fun h x hx hx2 => ?_⟩⟩
   ·rw [wA (by omega)]; exact h x hx hx2
   ·rw [← wA (s := s) (by omega)]; exact h x hx hx2
  ·rw [if_neg a]
   by_cases d : hi < s.1
   ·rw [if_pos d]
    refine ⟨Int.le_refl _, fun _ x hx hx2 => ?_, fun _ => rfl⟩
    have hr : RiseG s.1 (s :: l) := ⟨Int.le_refl _, f, g, c⟩
    exact hr.low (by omega)
   ·rw [if_neg d]
    refine ⟨by omega, fun e => by omega, fun h => ?_⟩
    have := h (max s.1 lo) (by omega) (by omega)
    rw [wD (by omega)] at this; cases this
theorem Rel.meets0 (h : Rel xs ds) {lo hi : Int} (hm : mayG lo hi = true) : szF (ptsF (strF ds)) lo hi > 0 ↔ (metG xs lo hi).isSome = true := by
 have hb := mayG_b hm
 have a := cnt_met (lo := lo) (hi := hi) (by omega) h.rise
 rw [h.size (by omega)]
 have b := metG_none h.rise hm
 cases hq : metG xs lo hi with
 | none => rw [a.2.2 (b.1 hq)]; simp
 | some s =>
  refine ⟨fun _ => rfl, fun _ => ?_⟩
  have : cntG lo hi xs ≠ 0 := fun e => by have := b.2 (a.2.1 e); rw [hq] at this; cases this
  omega
def inM (lo hi : Int) (s : StrV) : Bool := decide (s.1 ≤ hi ∧ lo ≤ s.2.1)
def metS (l : List StrV) (lo hi : Int) : Option StrV := l.find? (inM lo hi)
theorem from_cons (s : SpT) (l : List SpT) (x : Int) : fromG (s :: l) x = if s.2.1 < x then fromG l x + 1 else 0 := by
 unfold fromG; rw [List.takeWhile_cons]
 by_cases h : s.2.1 < x
 ·rw [if_pos (decide_eq_true h), if_pos h]; rfl
 ·rw [if_neg (by simpa using h), if_neg h]; rfl
theorem find_low {lo hi : Int} : ∀ {l : List SpT} {b : Int}, RiseG b l → hi < b → (l.map spS).find? (inM lo hi) = none
 | [], _, _, _ => rfl
 | s :: l, b, h, hb => by
  rw [List.map_cons, List.find?_cons, show inM lo hi (spS s) = false from decide_eq_false (by show ¬ (s.1 ≤ hi ∧ _); have := h.1; omega)]
  exact find_low h.2.2.2 (by have := h.1; have := h.2.1; omega)
theorem find_met {lo hi : Int} (hm : mayG lo hi = true) : ∀ {l : List SpT} {b : Int}, RiseG b l → (l.map spS).find? (inM lo hi) = (metG l lo hi).map spS
 | [], _, _ => by rw [metG_end hm (Nat.zero_le _)]; rfl
 | s :: l, b, h => by
  obtain ⟨g, e, f, c⟩ := h
  rw [List.map_cons, List.find?_cons]
  by_cases a : s.2.1 < lo
  ·rw [show inM lo hi (spS s) = false from decide_eq_false (by show ¬ (s.1 ≤ hi ∧ lo ≤ s.2.1); omega)]
   simp only
   rw [find_met hm c]
   unfold metG; rw [from_cons, if_pos a, List.getElem?_cons_succ]
  ·have hf : (s :: l)[fromG (s :: l) lo]? = some s := by rw [from_cons, if_neg a]; rfl
   by_cases d : s.1 ≤ hi
   ·rw [show inM lo hi (spS s) = true from decide_eq_true (by show s.1 ≤ hi ∧ lo ≤ s.2.1; omega), metG_yes hm hf d]; rfl
   ·rw [show inM lo hi (spS s) = false from decide_eq_false (by show ¬ (s.1 ≤ hi ∧ lo ≤ s.2.1); omega), metG_no hm hf (by omega)]
    simp only
    exact find_low c (by omega)
theorem Rel.met (h : Rel xs ds) {lo hi : Int} (hm : mayG lo hi = true) : metS (ptsF (strF ds)) lo hi = (metG xs lo hi).map spS := by
 rw [h.pts]; exact find_met hm h.rise
theorem Rel.nil : Rel [] [] := ⟨trivial, trivial, (fun d hd => nomatch hd), fun _ _ _ => rfl⟩
theorem Rel.map (h : Rel xs ds) : MapOk eqS xs := ⟨h.rise, h.can⟩
theorem OkD.snoc {d : DoneV} (h : OkD ds) (hd : okD d) : OkD (ds ++ [d]) := fun e he => (List.mem_append.1 he).elim (h e) (fun he => by rw [List.mem_singleton.1 he]; exact hd)
theorem Rel.lay (h : Rel xs ds) {lo hi : Int} (hm : mayG lo hi = true) (v : List UInt8) : Rel (layF eqS xs lo hi v) (ds ++ [(lo, hi, v, false)]) := by
 have hb := mayG_b hm
 refine ⟨wU h.rise, layF_can eqS_law h.rise h.can, h.ok.snoc ⟨hb.1, hb.2.1, hb.2.2, fun e => by cases e⟩, fun x h1 h2 => ?_⟩
 rw [atD_snoc, layF_val eqS_law h.rise hm]
 by_cases hx : lo ≤ x ∧ x ≤ hi
 ·rw [if_pos hx, if_pos hx]; rfl
 ·rw [if_neg hx, if_neg hx]; exact h.val x h1 h2
theorem Rel.cut (h : Rel xs ds) {lo hi : Int} (hm : mayG lo hi = true) : Rel (cutM xs lo hi) (ds ++ [(lo, hi, [], true)]) := by
 have hb := mayG_b hm
 refine ⟨cutF_rise h.rise, cutF_can h.rise h.can, h.ok.snoc ⟨hb.1, hb.2.1, hb.2.2, fun _ => rfl⟩, fun x h1 h2 => ?_⟩
 unfold cutM
 rw [if_neg (tnf hm), atD_snoc, cut_val hb.2.1 x h.rise]
 by_cases hx : lo ≤ x ∧ x ≤ hi
 ·rw [if_pos hx, if_pos hx]; rfl
 ·rw [if_neg hx, if_neg hx]; exact h.val x h1 h2
theorem Rel.cutN (h : Rel xs ds) {lo hi : Int} (hm : mayG lo hi = true) : Go.FK.cutN xs lo hi = szF (ptsF (strF ds)) lo hi := by
 unfold Go.FK.cutN; rw [if_neg (tnf hm), h.size (mayG_b hm).2.1]
def dnS (s : StrV) : DoneV := (s.1, s.2.1, s.2.2.1, false)
def ovrD (ds es : List DoneV) : List DoneV := ds ++ (ptsF (strF es)).map dnS
theorem at_done : ∀ {l : List SpT} {b : Int} {ds : List DoneV} {x : Int}, RiseG b l → atD (ds ++ (l.map spS).map dnS) x = match valG l x with | some v => (v, true) | none => atD ds x
 | [], _, ds, x, _ => by rw [List.map_nil, List.map_nil, List.append_nil]; rfl
 | s :: l, b, ds, x, h => by
  obtain ⟨c, e, d, a⟩ := h
  rw [List.map_cons, List.map_cons, show ds ++ dnS (spS s) :: (l.map spS).map dnS = (ds ++ [dnS (spS s)]) ++ (l.map spS).map dnS by simp, at_done a, atD_snoc]
  by_cases hx : s.1 ≤ x ∧ x ≤ s.2.1
  ·rw [a.low (by omega), wD hx]; simp only; rw [if_pos (by exact hx)]; rfl
  ·rw [wA (by omega)]
   cases valG l x with
   | some v => rfl
   | none => simp only; rw [if_neg (by exact hx)]
theorem ok_done {l : List SpT} {b : Int} (hb : 0 ≤ b) (h : RiseG b l) : OkD ((l.map spS).map dnS) := fun d hd => by
 obtain ⟨s, hs, rfl⟩ := List.mem_map.1 hd
 obtain ⟨t, ht, rfl⟩ := List.mem_map.1 hs
 have := h.mem t ht
 exact ⟨by show 0 ≤ t.1; omega, this.2.1, this.2.2, fun e => by cases e⟩
theorem Rel.over (h : Rel xs ds) (k : Rel ys es) : Rel (overF eqS xs ys) (ovrD ds es) := by
 have ho := overF_ok eqS_law h.rise k.rise
 refine ⟨ho.1.rise, ho.1.can, fun d hd => ?_, fun x h1 h2 => ?_⟩
 ·unfold ovrD at hd
  rw [k.pts] at hd
  exact (List.mem_append.1 hd).elim (h.ok d) (ok_done (Int.le_refl 0) k.rise d)
 ·rw [ho.2 x]; unfold ovrD; rw [k.pts, at_done k.rise]
  cases valG ys x with
  | some v => rfl
  | none => exact h.val x h1 h2
def trnV (few : Int) (v : List UInt8) : List UInt8 := if few = 0 then [97, 108, 105, 107, 101] else 120 :: v
def trnS (few : Int) (s : StrV) : DoneV := (s.1, s.2.1, trnV few s.2.2.1, false)
def trnD (few : Int) (ds : List DoneV) : List DoneV := (ptsF (strF ds)).map (trnS few)
theorem at_trn {few : Int} : ∀ {l : List SpT} {b : Int} {ds : List DoneV} {x : Int}, RiseG b l → atD (ds ++ (l.map spS).map (trnS few)) x = match valG l x with | some v => (trnV few v, true) | none => atD ds x
 | [], _, ds, x, _ => by rw [List.map_nil, List.map_nil, List.append_nil]; rfl
 | s :: l, b, ds, x, h => by
  obtain ⟨c, e, d, a⟩ := h
  rw [List.map_cons, List.map_cons, show ds ++ trnS few (spS s) :: (l.map spS).map (trnS few) = (ds ++ [trnS few (spS s)]) ++ (l.map spS).map (trnS few) by simp, at_trn a, atD_snoc]
  by_cases hx : s.1 ≤ x ∧ x ≤ s.2.1
  ·rw [a.low (by omega), wD hx]; simp only; rw [if_pos (by exact hx)]; rfl
  ·rw [wA (by omega)]
   cases valG l x with
   | some v => rfl
   | none => simp only; rw [if_neg (by exact hx)]
theorem Rel.turn (h : Rel xs ds) (few : Int) : Rel (turnAll eqS (trnV few) xs) (trnD few ds) := by
 have ho := turnAll_ok eqS_law (trnV few) h.rise
 refine ⟨ho.1.rise, ho.1.can, fun d hd => ?_, fun x h1 h2 => ?_⟩
 ·unfold trnD at hd
  rw [h.pts] at hd
  obtain ⟨s, hs, rfl⟩ := List.mem_map.1 hd
  obtain ⟨t, ht, rfl⟩ := List.mem_map.1 hs
  have := h.rise.mem t ht
  exact ⟨this.1, this.2.1, this.2.2, fun e => by cases e⟩
 ·rw [ho.2 x]; unfold trnD; rw [h.pts]
  have := at_trn (few := few) (ds := []) (x := x) h.rise
  rw [List.nil_append] at this
  rw [this]
  cases valG xs x with
  | some v => rfl
  | none => rfl
def encD (x : DoneV) : List Value := [.int .i32 x.1, .int .i32 x.2.1, S x.2.2.1, .bool x.2.2.2]
theorem OkD.rng (h : OkD ds) : ∀ d ∈ ds, 0 ≤ d.1 ∧ d.1 ≤ d.2.1 ∧ d.2.1 ≤ 1114111 := fun d hd => ⟨(h d hd).1, (h d hd).2.1, (h d hd).2.2.1⟩
theorem edgF_len (h : OkD ds) (i : Nat) : (edgF (ds.take i)).length ≤ 1114113 := (edg_of (h.take i)).len
theorem addF_len (l : List Int) (x : Int) : (addF l x).length ≤ l.length + 1 := by
 unfold addF; split
 ·omega
 ·simp only [List.length_append, List.length_take, List.length_drop, List.length_cons, List.length_nil]; omega
theorem stN_InS {f : Int → TV} : ∀ {l : List StrV} {b c : Int}, 0 ≤ b → c ≤ 1114112 → Pt f b l c → InS l
 | [], _, _, _, _, _ => fun s hs => nomatch hs
 | s :: l, b, c, hb, hc, h => fun t ht => by
  have d := h.1; have a := h.2.1; have e := h.2.2.2.2.le
  rcases List.mem_cons.1 ht with rfl | ht
  ·exact ⟨by omega, a, by omega⟩
  ·exact stN_InS (b := s.2.1 + 1) (by omega) hc h.2.2.2.2 t ht
theorem strF_InS (h : OkD ds) : InS (strF ds) := stN_InS (Int.le_refl 0) (by omega) (strF_pt h)
theorem vK (h : OkD ds) : (strF ds).length ≤ 1114112 := by have := (strF_pt h).len; omega
theorem ptsF_InS {l : List StrV} (h : InS l) : InS (ptsF l) := fun s hs => h s (List.mem_filter.1 hs).1
theorem ptsF_len (l : List StrV) : (ptsF l).length ≤ l.length := List.length_filter_le ..
theorem gapF_len (l : List StrV) : (gapF l).length ≤ l.length := List.length_filter_le ..
theorem ptsF_yes {l : List StrV} {i : Nat} {s : StrV} (h : l[i]? = some s) (hh : s.2.2.2 = true) : ptsF (l.take i) ++ [s] = ptsF (l.take (i + 1)) := by
 unfold ptsF; rw [List.take_add_one, h, Option.toList_some, List.filter_append, List.filter_cons, if_pos hh]; rfl
theorem ptsF_no {l : List StrV} {i : Nat} {s : StrV} (h : l[i]? = some s) (hh : s.2.2.2 = false) : ptsF (l.take i) = ptsF (l.take (i + 1)) := by
 unfold ptsF; rw [List.take_add_one, h, Option.toList_some, List.filter_append, List.filter_cons, if_neg (by rw [hh]; decide), List.filter_nil, List.append_nil]
theorem gapF_yes {l : List StrV} {i : Nat} {s : StrV} (h : l[i]? = some s) (hh : s.2.2.2 = false) : gapF (l.take i) ++ [s] = gapF (l.take (i + 1)) := by
 unfold gapF; rw [List.take_add_one, h, Option.toList_some, List.filter_append, List.filter_cons, if_pos (by rw [hh]; rfl)]; rfl
theorem gapF_no {l : List StrV} {i : Nat} {s : StrV} (h : l[i]? = some s) (hh : s.2.2.2 = true) : gapF (l.take i) = gapF (l.take (i + 1)) := by
 unfold gapF; rw [List.take_add_one, h, Option.toList_some, List.filter_append, List.filter_cons, if_neg (by rw [hh]; decide), List.filter_nil, List.append_nil]
theorem stN_at0 (h : OkD ds) {i : Nat} (hi : i < (edgF ds).length) : InS (stN (atD ds) (edgF ds) i) ∧ (stN (atD ds) (edgF ds) i).length ≤ 1114112 := by
 have he := edg_of h
 have ha : (edgF ds)[i]? = some ((edgF ds)[i]'hi) := List.getElem?_eq_getElem _
 have hp := stN_pt he ha
 have hb := he.bd _ (List.mem_of_getElem? ha)
 exact ⟨stN_InS (Int.le_refl 0) hb.2 hp, by have := hp.len; omega⟩
def metV4 (o : Option StrV) : Int × Int × List UInt8 × Bool := match o with | some s => (s.1, s.2.1, s.2.2.1, true) | none => (0, 0, [], false)
def noM (l : List StrV) (lo hi : Int) (i : Nat) : Prop := metS (l.take i) lo hi = none
theorem noM_zero (l : List StrV) (lo hi : Int) : noM l lo hi 0 := rfl
theorem noM_step {l : List StrV} {lo hi : Int} {i : Nat} {s : StrV} (h : noM l lo hi i) (hs : l[i]? = some s) (hn : hi < s.1 ∨ s.2.1 < lo) : noM l lo hi (i + 1) := by
 unfold noM metS at *
 rw [List.take_add_one, hs, Option.toList_some, List.find?_append, h, List.find?_cons, show inM lo hi s = false from decide_eq_false (by omega)]; rfl
theorem met_hit {l : List StrV} {lo hi : Int} {i : Nat} {s : StrV} (h : noM l lo hi i) (hs : l[i]? = some s) (h1 : s.1 ≤ hi) (h2 : lo ≤ s.2.1) : metS l lo hi = some s := by
 have e : l = l.take i ++ s :: l.drop (i + 1) := by
  have hi := (List.getElem?_eq_some_iff.1 hs).1
  rw [← (List.getElem?_eq_some_iff.1 hs).2, ← List.drop_eq_getElem_cons hi, List.take_append_drop]
 rw [e]; unfold noM metS at *
 rw [List.find?_append, h, List.find?_cons, show inM lo hi s = true from decide_eq_true ⟨h1, h2⟩]; rfl
theorem met_end {l : List StrV} {lo hi : Int} {i : Nat} (h : noM l lo hi i) (hle : l.length ≤ i) : metS l lo hi = none := by
 unfold noM at h; rwa [List.take_of_length_le hle] at h
def putD (ds : List DoneV) (lo hi : Int) (v : List UInt8) : List DoneV := ds ++ [(lo, hi, v, false)]
def cutD (ds : List DoneV) (lo hi : Int) : List DoneV := ds ++ [(lo, hi, [], true)]
def meetsD (ds : List DoneV) (lo hi : Int) : Int × Int × List UInt8 × Bool := if mayG lo hi = true then metV4 (metS (ptsF (strF ds)) lo hi) else (0, 0, [], false)
theorem dn_take {l : List StrV} {g : StrV → DoneV} {i : Nat} {s : StrV} (h : l[i]? = some s) : (l.take i).map g ++ [g s] = (l.take (i + 1)).map g := by
 rw [List.take_add_one, h, Option.toList_some, List.map_append]; rfl
theorem same_step {l m : List StrV} {i : Nat} {x y : StrV} (h : l.take i = m.take i) (hx : l[i]? = some x) (hy : m[i]? = some y) (he : x = y) : l.take (i + 1) = m.take (i + 1) := by
 rw [List.take_add_one, List.take_add_one, h, hx, hy, he]
theorem st4 {x y : StrV} (h1 : x.1 = y.1) (h2 : x.2.1 = y.2.1) (h3 : x.2.2.1 = y.2.2.1) (h4 : x.2.2.2 = y.2.2.2) : x = y := Prod.ext h1 (Prod.ext h2 (Prod.ext h3 h4))
theorem meetsD_no {lo hi : Int} (h : mayG lo hi = false) : meetsD ds lo hi = (0, 0, [], false) := if_neg (by rw [h]; decide)
theorem meetsD_hit {lo hi : Int} {i : Nat} {s : StrV} (h : mayG lo hi = true) (hn : noM (ptsF (strF ds)) lo hi i) (hs : (ptsF (strF ds))[i]? = some s) (h1 : s.1 ≤ hi) (h2 : lo ≤ s.2.1) : meetsD ds lo hi = (s.1, s.2.1, s.2.2.1, true) := by
 unfold meetsD; rw [if_pos h, met_hit hn hs h1 h2]; rfl
theorem meetsD_end {lo hi : Int} {i : Nat} (h : mayG lo hi = true) (hn : noM (ptsF (strF ds)) lo hi i) (hs : (ptsF (strF ds)).length ≤ i) : meetsD ds lo hi = (0, 0, [], false) := by
 unfold meetsD; rw [if_pos h, met_end hn hs]; rfl
def tkF (few : Int) (l : List StrV) : List StrV := if few < 0 then l else l.take (few.toNat + 1)
theorem tkF_all {few : Int} {l : List StrV} (h : few < 0 ∨ (l.length : Int) ≤ few) : tkF few l = l := by
 unfold tkF; split
 ·rfl
 ·exact List.take_of_length_le (by omega)
theorem tkF_stop {α : Type} {few : Int} {pre xs : List α} {g : α → StrV} (hp : pre <+: xs) (h0 : 0 ≤ few) (h : (pre.length : Int) = few + 1) : pre.map g = tkF few (xs.map g) := by
 unfold tkF; rw [if_neg (by omega), show few.toNat + 1 = pre.length by omega]
 obtain ⟨t, rfl⟩ := hp
 rw [List.map_append, show pre.length = (pre.map g).length by simp, List.take_left]
theorem tkF_len (few : Int) (l : List StrV) : (tkF few l).length ≤ l.length := by
 unfold tkF; split
 ·exact Nat.le_refl _
 ·rw [List.length_take]; exact Nat.min_le_right ..
def wantF (few : Int) (l : List StrV) : Int := if 0 ≤ few ∧ few < (l.length : Int) - 1 then few + 1 else l.length
theorem want_y {few : Int} {l : List StrV} (h : 0 ≤ few) (h2 : few < (l.length : Int) - 1) : wantF few l = few + 1 := if_pos ⟨h, h2⟩
theorem want_n {few : Int} {l : List StrV} (h : few < 0 ∨ (l.length : Int) - 1 ≤ few) : wantF few l = l.length := if_neg (by omega)
theorem want_bd (few : Int) (l : List StrV) : 0 ≤ wantF few l ∧ wantF few l ≤ l.length := by unfold wantF; split <;> omega
theorem tkF_want (few : Int) (l : List StrV) : tkF few l = l.take (wantF few l).toNat := by
 by_cases h : 0 ≤ few ∧ few < (l.length : Int) - 1
 ·rw [want_y h.1 h.2]; unfold tkF; rw [if_neg (by omega), show (few + 1).toNat = few.toNat + 1 by omega]
 ·rcases Int.lt_or_le few 0 with a | a
  ·rw [want_n (.inl a), Int.toNat_natCast, List.take_length]; exact tkF_all (.inl a)
  ·rw [want_n (.inr (by omega)), Int.toNat_natCast, List.take_length]
   unfold tkF; rw [if_neg (by omega)]; exact List.take_of_length_le (by omega)
theorem same_yes {few : Int} {a l : List StrV} {i : Nat} (h : a.take i = l.take i) (ha : (a.length : Int) = wantF few l) (hi : a.length ≤ i) : decide (a = tkF few l) = true := by
 have hw := want_bd few l
 apply decide_eq_true
 rw [tkF_want, ← ha, Int.toNat_natCast]
 rw [List.take_of_length_le hi] at h
 have b := congrArg (List.take a.length) h
 rw [List.take_length, List.take_take, Nat.min_eq_left hi] at b
 exact b
theorem same_len {few : Int} {a l : List StrV} (ha : (a.length : Int) ≠ wantF few l) : decide (a = tkF few l) = false := by
 have hw := want_bd few l
 apply decide_eq_false
 intro e
 have b := congrArg List.length e
 rw [tkF_want, List.length_take] at b; omega
theorem same_no {few : Int} {a l : List StrV} {i : Nat} {x y : StrV} (hx : a[i]? = some x) (hy : l[i]? = some y) (hn : x ≠ y) : decide (a = tkF few l) = false := by
 apply decide_eq_false
 intro e
 rw [e, tkF_want, List.getElem?_take] at hx
 split at hx
 ·rw [hy] at hx; exact hn (Option.some.inj hx).symm
 ·cases hx
theorem Rel.putE (h : Rel xs ds) (lo hi : Int) : Go.FK.putE xs lo hi = if mayG lo hi = false then 41 else if szF (ptsF (strF ds)) lo hi > 0 then 42 else 0 := by
 unfold Go.FK.putE
 by_cases hm : mayG lo hi = false
 ·rw [if_pos hm, if_pos hm]
 ·have b : mayG lo hi = true := by simpa using hm
  rw [if_neg hm, if_neg hm]
  have := h.meets0 b
  by_cases a : (metG xs lo hi).isSome = true
  ·rw [if_pos a, if_pos (this.2 a)]
  ·rw [if_neg a, if_neg (fun e => a (this.1 e))]
theorem atD_out {x : Int} (h : OkD ds) (hx : x < 0 ∨ 1114111 < x) : atD ds x = ([], false) := by
 apply atD_none
 intro j d _ hd
 have := h.at hd
 have a := this.1; have b := this.2.2.1; omega
theorem Rel.at (h : Rel xs ds) (x : Int) : atM [] xs x = atD ds x := by
 by_cases hx : 0 ≤ x ∧ x ≤ 1114111
 ·rw [h.val x hx.1 hx.2]
  unfold atM; rw [if_pos (by simp [inR]; omega)]
  cases valG xs x <;> rfl
 ·rw [atD_out h.ok (by omega), atG_out (by omega)]
theorem Rel.meets (h : Rel xs ds) (lo hi : Int) : metV [] (metG xs lo hi) = meetsD ds lo hi := by
 by_cases hm : mayG lo hi = true
 ·unfold meetsD; rw [if_pos hm, h.met hm]
  cases metG xs lo hi <;> rfl
 ·rw [meetsD_no (by simpa using hm), metG_may (by simpa using hm)]; rfl
theorem Rel.cutE (h : Rel xs ds) (lo hi : Int) : Go.FK.cutN xs lo hi = if mayG lo hi = false then 0 else szF (ptsF (strF ds)) lo hi := by
 by_cases hm : mayG lo hi = false
 ·rw [if_pos hm]; unfold Go.FK.cutN; rw [if_pos hm]
 ·rw [if_neg hm]; exact h.cutN (by simpa using hm)
def chgX (k : Int) (xs : List SpT) (lo hi : Int) (v : List UInt8) : List SpT := if k = 0 then putF eqS xs lo hi v else if k = 1 then layF eqS xs lo hi v else if k = 2 then cutM xs lo hi else xs
def chgD (k : Int) (ds : List DoneV) (lo hi : Int) (v : List UInt8) : List DoneV :=
  if k = 0 then (if mayG lo hi = false then ds else if szF (ptsF (strF ds)) lo hi > 0 then ds else putD ds lo hi v)
  else if k = 1 then (if mayG lo hi = false then ds else putD ds lo hi v)
  else if k = 2 then (if mayG lo hi = false then ds else cutD ds lo hi) else ds
theorem layF_no {lo hi : Int} {v : List UInt8} (h : mayG lo hi = false) : layF eqS xs lo hi v = xs := if_pos h
theorem cutM_no {lo hi : Int} (h : mayG lo hi = false) : cutM xs lo hi = xs := if_pos h
theorem Rel.chg (h : Rel xs ds) (k lo hi : Int) (v : List UInt8) : Rel (chgX k xs lo hi v) (chgD k ds lo hi v) := by
 unfold chgX chgD
 by_cases d : k = 0
 ·rw [if_pos d, if_pos d]
  by_cases hm : mayG lo hi = false
  ·rw [if_pos hm]; unfold putF; rw [if_pos hm]; exact h
  ·have b : mayG lo hi = true := by simpa using hm
   have hz := h.meets0 b
   rw [if_neg hm]; unfold putF; rw [if_neg hm]
   by_cases a : (metG xs lo hi).isSome = true
   ·rw [if_pos a, if_pos (hz.2 a)]; exact h
   ·rw [if_neg a, if_neg (fun e => a (hz.1 e))]
    have := h.lay b v
    unfold layF at this; rw [if_neg hm] at this; exact this
 ·rw [if_neg d, if_neg d]
  by_cases c : k = 1
  ·rw [if_pos c, if_pos c]
   by_cases hm : mayG lo hi = false
   ·rw [if_pos hm, layF_no hm]; exact h
   ·rw [if_neg hm]; exact h.lay (by simpa using hm) v
  ·rw [if_neg c, if_neg c]
   by_cases a : k = 2
   ·rw [if_pos a, if_pos a]
    by_cases hm : mayG lo hi = false
    ·rw [if_pos hm, cutM_no hm]; exact h
    ·rw [if_neg hm]; exact h.cut (by simpa using hm)
   ·rw [if_neg a, if_neg a]; exact h
theorem chgD_len (k : Int) (ds : List DoneV) (lo hi : Int) (v : List UInt8) : (chgD k ds lo hi v).length ≤ ds.length + 1 := by
 unfold chgD putD cutD
 repeat' split
 all_goals simp
section
variable {k lo hi : Int} {v : List UInt8}
theorem chgX0 (h : k = 0) : chgX k xs lo hi v = putF eqS xs lo hi v := if_pos h
theorem chgX1 (h : k = 1) : chgX k xs lo hi v = layF eqS xs lo hi v := by unfold chgX; rw [if_neg (by omega), if_pos h]
theorem chgX2 (h : k = 2) : chgX k xs lo hi v = cutM xs lo hi := by unfold chgX; rw [if_neg (by omega), if_neg (by omega), if_pos h]
theorem chgX3 (h : 3 ≤ k) : chgX k xs lo hi v = xs := by unfold chgX; rw [if_neg (by omega), if_neg (by omega), if_neg (by omega)]
theorem chgD0 (h : k = 0) : chgD k ds lo hi v = if mayG lo hi = false then ds else if szF (ptsF (strF ds)) lo hi > 0 then ds else putD ds lo hi v := if_pos h
theorem chgD1 (h : k = 1) : chgD k ds lo hi v = if mayG lo hi = false then ds else putD ds lo hi v := by unfold chgD; rw [if_neg (by omega), if_pos h]
theorem chgD2 (h : k = 2) : chgD k ds lo hi v = if mayG lo hi = false then ds else cutD ds lo hi := by unfold chgD; rw [if_neg (by omega), if_neg (by omega), if_pos h]
theorem chgD3 (h : 3 ≤ k) : chgD k ds lo hi v = ds := by unfold chgD; rw [if_neg (by omega), if_neg (by omega), if_neg (by omega)]
end
end Go.FK
end

/- === PPl2 === -/
section
/- PPl2: chapter 4's script: the function that is handed to Turn. My own text. -/
namespace Go.FK
theorem tk_val {l : List StrV} {xs pre : List SpT} {x : SpT} {n : Nat} {e : StrV} (hl : l = xs.map spS) (hp : pre ++ [x] <+: xs) (hn : n = pre.length) (he : l[n]? = some e) : x.2.2 = e.2.2.1 := by
 obtain ⟨t, ht⟩ := hp
 subst hl hn
 rw [← ht, List.getElem?_map, List.append_assoc, List.getElem?_append_right (Nat.le_refl _), Nat.sub_self] at he
 simp at he
 rw [← he]; rfl
theorem tk_no {α : Type} {pre : List α} {x : α} (h : pre ++ [x] <+: []) : False := by
 have := h.length_le
 simp at this
theorem pts_val {l : List StrV} {xs : List SpT} (hl : l = xs.map spS) (hv : ∀ s ∈ xs, s.2.2.length ≤ 2097152) : ∀ s ∈ l, s.2.2.1.length ≤ 2097152 := fun s hs => by
 rw [hl] at hs
 obtain ⟨x, hx, rfl⟩ := List.mem_map.1 hs
 exact hv x hx
def ValD (m : Nat) (ds : List DoneV) : Prop := ∀ d ∈ ds, d.2.2.1.length ≤ m
theorem ValD.nil (m : Nat) : ValD m [] := fun _ h => nomatch h
theorem ValD.up {m n : Nat} {ds : List DoneV} (h : ValD m ds) (hn : m ≤ n) : ValD n ds := fun d hd => Nat.le_trans (h d hd) hn
theorem ValD.snoc {m : Nat} {ds : List DoneV} {d : DoneV} (h : ValD m ds) (hd : d.2.2.1.length ≤ m) : ValD m (ds ++ [d]) := fun e he => (List.mem_append.1 he).elim (h e) (fun he => by rw [List.mem_singleton.1 he]; exact hd)
theorem atD_val {m : Nat} {ds : List DoneV} (h : ValD m ds) (x : Int) : (atD ds x).1.length ≤ m := by
 unfold atD
 split
 ·rename_i d hd
  exact h d (List.mem_reverse.1 (List.mem_of_find?_eq_some hd))
 ·exact Nat.zero_le _
theorem Pt.val {f : Int → TV} : ∀ {l : List StrV} {b c : Int}, Pt f b l c → ∀ s ∈ l, ∃ x, f x = s.2.2
 | [], _, _, _, s, hs => nomatch hs
 | t :: l, b, c, h, s, hs => by
  rcases List.mem_cons.1 hs with rfl | hs
  ·exact ⟨s.1, h.2.2.1 s.1 (Int.le_refl _) h.2.1⟩
  ·exact h.2.2.2.2.val s hs
theorem strF_val {m : Nat} {ds : List DoneV} (ok : OkD ds) (h : ValD m ds) : ∀ s ∈ strF ds, s.2.2.1.length ≤ m := fun s hs => by
 obtain ⟨x, hx⟩ := (strF_pt ok).val s hs
 rw [← hx]; exact atD_val h x
theorem ptsF_val {m : Nat} {ds : List DoneV} (ok : OkD ds) (h : ValD m ds) : ∀ s ∈ ptsF (strF ds), s.2.2.1.length ≤ m := fun s hs => strF_val ok h s (List.mem_filter.1 hs).1
theorem Rel.vals {m : Nat} {xs : List SpT} {ds : List DoneV} (h : Rel xs ds) (hv : ValD m ds) : ∀ s ∈ xs, s.2.2.length ≤ m := fun s hs => by
 have := ptsF_val h.ok hv (spS s) (by rw [h.pts]; exact List.mem_map_of_mem hs)
 exact this
theorem ValD.chg {m : Nat} {ds : List DoneV} {v : List UInt8} (h : ValD m ds) (hv : v.length ≤ m) (k lo hi : Int) : ValD m (chgD k ds lo hi v) := by
 unfold chgD putD cutD
 repeat' split
 all_goals first | exact h | exact h.snoc hv | exact h.snoc (Nat.zero_le _)
theorem ValD.over {m : Nat} {ds es : List DoneV} (h : ValD m ds) (k : ValD m es) (ok : OkD es) : ValD m (ovrD ds es) := fun d hd => by
 rcases List.mem_append.1 hd with hd | hd
 ·exact h d hd
 ·obtain ⟨s, hs, rfl⟩ := List.mem_map.1 hd
  exact ptsF_val ok k s hs
theorem ValD.trn {m : Nat} {ds : List DoneV} (h : ValD m ds) (ok : OkD ds) (h5 : 5 ≤ m) (few : Int) : ValD (m + 1) (trnD few ds) := fun d hd => by
 obtain ⟨s, hs, rfl⟩ := List.mem_map.1 hd
 have := ptsF_val ok h s hs
 show (trnV few s.2.2.1).length ≤ m + 1
 unfold trnV
 split
 ·show 5 ≤ m + 1; omega
 ·simp only [List.length_cons]; omega
theorem pts_len {ds : List DoneV} (ok : OkD ds) : (ptsF (strF ds)).length ≤ 1114112 := Nat.le_trans (ptsF_len _) (vK ok)
theorem ovrD_len {ds es : List DoneV} (ok : OkD es) : (ovrD ds es).length ≤ ds.length + 1114112 := by
 have := pts_len ok
 unfold ovrD; rw [List.length_append, List.length_map]; omega
theorem trnD_len {few : Int} {ds : List DoneV} (ok : OkD ds) : (trnD few ds).length ≤ 1114112 := by
 have := pts_len ok
 unfold trnD; rw [List.length_map]; omega
end Go.FK
end

/- === FKaq === -/
section
/- FKaq: short laws for the walks' texts: what can be read off is read off, closed facts are defaults. My own text. -/
namespace Go.FK
open Go Go.RowKit
theorem zk {p : Prop} (h : p := by kernel_rfl) : p := h
theorem zo {p : Prop} (h : p := by omega) : p := h
theorem za {p : Prop} (h : p := by assumption) : p := h
theorem zl {p : Prop} (h : p := by (simp only [List.length_append, List.length_take, List.length_drop, List.length_replicate, List.length_cons, List.length_nil] <;> omega)) : p := h
@[reducible] def pt (b o : Nat) : Value := .pointer (some ⟨b, o, none⟩)
@[reducible] def I8 (x : Int) : Value := .int .i8 x
@[reducible] def I3 (x : Int) : Value := .int .i32 x
@[reducible] def I6 (x : Int) : Value := .int .i64 x
@[reducible] def U8 (x : Int) : Value := .int .u8 x
@[reducible] def N6 (x : Nat) : Value := .int .i64 (x : Int)
@[reducible] def vB (b : Bool) : Value := .bool b
@[reducible] def vF (b : Nat) : Value := .float .f64 b
@[reducible] def vx (v : Value) : Value := v
@[reducible] def ob (l : List Value) (E : TypeId) : Obj := .cells l.toArray E (0, 0)
theorem _root_.Go.RowKit.Below.tr {w a b : World} (hb : Below w.heap.size w a) (h : Below a.heap.size a b) : Below w.heap.size w b := hb.trans (h.mono hb.size)
theorem _root_.Go.RowKit.Below.tg {w a b : World} {v : Value} {B E k m : Nat} {xs : List Value} (hb : Below B w a) (hs : B ≤ a.heap.size) (hg : a.grownBy b v.ownBlock) (h : a.ownsRow B E k v m xs) : Below B w b :=
 hb.grown hg hs (fun k hk => (World.ownsRow.lt h k hk).1)
theorem New.ge {w a b : World} {k : Nat} {o : Obj} (h : New a b k o) (hb : w.heap.size ≤ a.heap.size) : w.heap.size ≤ k := by rw [h.num]; exact hb
theorem NE_ge {a b k : Nat} (h : a < k) (g : k ≤ b) : NE a b := by show _ ≠ _; omega
theorem qB {w w' : World} {a b : Nat} {o : Obj} (h : a < w.heap.size) (hN : New w w' b o) : NE a b := by have := hN.num; show _ ≠ _; omega
section ops
variable {r : Option Nat} {P : Program} {n : Nat} {Q : Post} {s : Fm} {w : World} {ops : Array Oper} {rest : List Oper}
variable {d : Option Tmp} {ty : TypeId} {pos : String} {af : Array Edge}
variable {t yt : TypeId} {X Y : Operand}
theorem nEq (x y : Nat) (ht : x = y → L r P n ops Q rest (s.put d (.bool true)) w) (hf : x ≠ y → L r P n ops Q rest (s.put d (.bool false)) w) (hx : s.ev n X = .int .i64 x := by kernel_rfl) (hy : s.ev n Y = .int .i64 y := by kernel_rfl) : L r P n ops Q (⟨d, .binOp .eql t X Y yt, ty, pos, af, none⟩ :: rest) s w :=
 L_cmp .i64 x y (x = y) rfl (cmpN_eq x y) hx hy ht hf
theorem nNe (x y : Nat) (ht : x ≠ y → L r P n ops Q rest (s.put d (.bool true)) w) (hf : x = y → L r P n ops Q rest (s.put d (.bool false)) w) (hx : s.ev n X = .int .i64 x := by kernel_rfl) (hy : s.ev n Y = .int .i64 y := by kernel_rfl) : L r P n ops Q (⟨d, .binOp .neq t X Y yt, ty, pos, af, none⟩ :: rest) s w :=
 L_cmp .i64 x y (x ≠ y) rfl (cmpN_ne x y) hx hy ht (fun h => hf (by omega))
theorem nLt (x y : Nat) (ht : x < y → L r P n ops Q rest (s.put d (.bool true)) w) (hf : y ≤ x → L r P n ops Q rest (s.put d (.bool false)) w) (hx : s.ev n X = .int .i64 x := by kernel_rfl) (hy : s.ev n Y = .int .i64 y := by kernel_rfl) : L r P n ops Q (⟨d, .binOp .lss t X Y yt, ty, pos, af, none⟩ :: rest) s w :=
 L_cmp .i64 x y (x < y) rfl (cmpN_lt x y) hx hy ht (fun h => hf (by omega))
theorem nLe (x y : Nat) (ht : x ≤ y → L r P n ops Q rest (s.put d (.bool true)) w) (hf : y < x → L r P n ops Q rest (s.put d (.bool false)) w) (hx : s.ev n X = .int .i64 x := by kernel_rfl) (hy : s.ev n Y = .int .i64 y := by kernel_rfl) : L r P n ops Q (⟨d, .binOp .leq t X Y yt, ty, pos, af, none⟩ :: rest) s w :=
 L_cmp .i64 x y (x ≤ y) rfl (cmpN_le x y) hx hy ht (fun h => hf (by omega))
theorem nGt (x y : Nat) (ht : y < x → L r P n ops Q rest (s.put d (.bool true)) w) (hf : x ≤ y → L r P n ops Q rest (s.put d (.bool false)) w) (hx : s.ev n X = .int .i64 x := by kernel_rfl) (hy : s.ev n Y = .int .i64 y := by kernel_rfl) : L r P n ops Q (⟨d, .binOp .gtr t X Y yt, ty, pos, af, none⟩ :: rest) s w :=
 L_cmp .i64 x y (y < x) rfl (cmpN_gt x y) hx hy ht (fun h => hf (by omega))
theorem zEq (k : IntKind) (x y : Int) (ht : x = y → L r P n ops Q rest (s.put d (.bool true)) w) (hf : x ≠ y → L r P n ops Q rest (s.put d (.bool false)) w) (hx : s.ev n X = .int k x := by kernel_rfl) (hy : s.ev n Y = .int k y := by kernel_rfl) : L r P n ops Q (⟨d, .binOp .eql t X Y yt, ty, pos, af, none⟩ :: rest) s w :=
 L_cmp k x y (x = y) rfl (cmp_eq x y) hx hy ht hf
theorem zNe (k : IntKind) (x y : Int) (ht : x ≠ y → L r P n ops Q rest (s.put d (.bool true)) w) (hf : x = y → L r P n ops Q rest (s.put d (.bool false)) w) (hx : s.ev n X = .int k x := by kernel_rfl) (hy : s.ev n Y = .int k y := by kernel_rfl) : L r P n ops Q (⟨d, .binOp .neq t X Y yt, ty, pos, af, none⟩ :: rest) s w :=
 L_cmp k x y (x ≠ y) rfl (cmp_ne x y) hx hy ht (fun h => hf (by omega))
theorem zLt (k : IntKind) (x y : Int) (ht : x < y → L r P n ops Q rest (s.put d (.bool true)) w) (hf : y ≤ x → L r P n ops Q rest (s.put d (.bool false)) w) (hx : s.ev n X = .int k x := by kernel_rfl) (hy : s.ev n Y = .int k y := by kernel_rfl) : L r P n ops Q (⟨d, .binOp .lss t X Y yt, ty, pos, af, none⟩ :: rest) s w :=
 L_cmp k x y (x < y) rfl (cmp_lt x y) hx hy ht (fun h => hf (by omega))
theorem zLe (k : IntKind) (x y : Int) (ht : x ≤ y → L r P n ops Q rest (s.put d (.bool true)) w) (hf : y < x → L r P n ops Q rest (s.put d (.bool false)) w) (hx : s.ev n X = .int k x := by kernel_rfl) (hy : s.ev n Y = .int k y := by kernel_rfl) : L r P n ops Q (⟨d, .binOp .leq t X Y yt, ty, pos, af, none⟩ :: rest) s w :=
 L_cmp k x y (x ≤ y) rfl (cmp_le x y) hx hy ht (fun h => hf (by omega))
theorem zGt (k : IntKind) (x y : Int) (ht : y < x → L r P n ops Q rest (s.put d (.bool true)) w) (hf : x ≤ y → L r P n ops Q rest (s.put d (.bool false)) w) (hx : s.ev n X = .int k x := by kernel_rfl) (hy : s.ev n Y = .int k y := by kernel_rfl) : L r P n ops Q (⟨d, .binOp .gtr t X Y yt, ty, pos, af, none⟩ :: rest) s w :=
 L_cmp k x y (y < x) rfl (cmp_gt x y) hx hy ht (fun h => hf (by omega))
theorem zGe (k : IntKind) (x y : Int) (ht : y ≤ x → L r P n ops Q rest (s.put d (.bool true)) w) (hf : x < y → L r P n ops Q rest (s.put d (.bool false)) w) (hx : s.ev n X = .int k x := by kernel_rfl) (hy : s.ev n Y = .int k y := by kernel_rfl) : L r P n ops Q (⟨d, .binOp .geq t X Y yt, ty, pos, af, none⟩ :: rest) s w :=
 L_cmp k x y (y ≤ x) rfl (cmp_ge x y) hx hy ht (fun h => hf (by omega))
theorem zw {op : Op} {g : Nat × Bool} (h : L r P n ops Q (⟨d, op, ty, pos, af, none⟩ :: rest) s w) (hg : Option.elim (yl ops n s g.1) false (fun b => b == g.2) = true := by kernel_rfl) : L r P n ops Q (⟨d, op, ty, pos, af, some g⟩ :: rest) s w := L_want hg h
theorem zs {op : Op} {g : Nat × Bool} (h : L r P n ops Q rest (s.put d undef) w) (hg : Option.elim (yl ops n s g.1) false (fun b => b == g.2) = false := by kernel_rfl) : L r P n ops Q (⟨d, op, ty, pos, af, some g⟩ :: rest) s w := L_skip hg h
theorem xN {c : Operand} (h : L r P n ops Q rest (s.put d (s.ev n X)) w) (hc : s.ev n c = .bool true := by kernel_rfl) : L r P n ops Q (⟨d, .pick c X Y, ty, pos, af, none⟩ :: rest) s w := L_pickT hc h
theorem zpF {c : Operand} (h : L r P n ops Q rest (s.put d (s.ev n Y)) w) (hc : s.ev n c = .bool false := by kernel_rfl) : L r P n ops Q (⟨d, .pick c X Y, ty, pos, af, none⟩ :: rest) s w := L_pickF hc h
theorem zT {c : Operand} {x y : Code} (h : W r P n x Q s w) (hc : s.ev n c = .bool true := by kernel_rfl) : W r P n (.cond c x y) Q s w := W_true hc h
theorem zF {c : Operand} {x y : Code} (h : W r P n y Q s w) (hc : s.ev n c = .bool false := by kernel_rfl) : W r P n (.cond c x y) Q s w := W_false hc h
theorem zxo {id j : Nat} (h : Q (.exit j) s w) (hj : Nat.beq j id = false := by kernel_rfl) : blkQ id Q (.exit j) s w := blkQ_exit_other hj h
theorem zr {op : Op} (v : Value) (h : L r P n ops Q rest (s.put d v) w) (hrun : (execOp (s.ev n) ⟨d, op, ty, pos, af, none⟩).run P w = .ok (.value v) w := by kernel_rfl) (hd : notDefer op = true := by kernel_rfl) : L r P n ops Q (⟨d, op, ty, pos, af, none⟩ :: rest) s w := L_run v hrun hd h
theorem znt (b : Bool) (h : L r P n ops Q rest (s.put d (.bool (!b))) w) (hx : s.ev n X = .bool b := by kernel_rfl) : L r P n ops Q (⟨d, .unOp .not t X, ty, pos, af, none⟩ :: rest) s w := L_not b hx h
theorem vG (a b : Nat) (h : L r P n ops Q rest (s.put d (.int .i64 ((a + b : Nat) : Int))) w) (hb : a + b ≤ 9223372036854775807 := by omega) (hx : s.ev n X = .int .i64 a := by kernel_rfl) (hy : s.ev n Y = .int .i64 b := by kernel_rfl) : L r P n ops Q (⟨d, .binOp .add t X Y yt, ty, pos, af, none⟩ :: rest) s w := L_addN a b hb hx hy h
theorem zsb (a b : Nat) (h : L r P n ops Q rest (s.put d (.int .i64 ((a - b : Nat) : Int))) w) (hb : b ≤ a := by omega) (ha : a ≤ 9223372036854775807 := by omega) (hx : s.ev n X = .int .i64 a := by kernel_rfl) (hy : s.ev n Y = .int .i64 b := by kernel_rfl) : L r P n ops Q (⟨d, .binOp .sub t X Y yt, ty, pos, af, none⟩ :: rest) s w := L_subN a b hb ha hx hy h
theorem zsl {ats : Array TypeId} (t : TypeId) (a : List UInt8) (h : L r P n ops Q rest (s.put d (.int .i64 (a.length : Nat))) w) (hat : ats[0]? = some t := by rfl) (hu : P.underlying t = some .string := by kernel_rfl) (hx : s.ev n X = S a := by kernel_rfl) : L r P n ops Q (⟨d, .call ⟨.builtin .len, #[X], ats⟩, ty, pos, af, none⟩ :: rest) s w := L_slen t a hat hu hx h
theorem vI {ats : Array TypeId} {E m : Nat} {v : Value} (hu : P.underlying t = some (.slice E)) (hv : ∃ a c, v = .slice a m c) (h : L r P n ops Q rest (s.put d (.int .i64 (m : Nat))) w) (hat : ats[0]? = some t := by rfl) (hx : s.ev n X = v := by kernel_rfl) : L r P n ops Q (⟨d, .call ⟨.builtin .len, #[X], ats⟩, ty, pos, af, none⟩ :: rest) s w := L_len t E m v hat hu hv hx h
theorem zc {op : Op} {f : FuncId} {args : List Value} {R : Value → World → Prop} (hc : Calls P f args.toArray w (Ret R)) (h : ∀ v w', R v w' → L r P n ops Q rest (s.put d v) w') (hrun : (execOp (s.ev n) ⟨d, op, ty, pos, af, none⟩).run P w = .ok (.enter f args.toArray) w := by kernel_rfl) (hd : notDefer op = true := by kernel_rfl) : L r P n ops Q (⟨d, op, ty, pos, af, none⟩ :: rest) s w := L_call f args hrun hd hc h
theorem zN {op : Op} (l : List Value) (E : TypeId) (h : ∀ b w', New w w' b (.cells l.toArray E (0, 0)) → L r P n ops Q rest (s.put d (.pointer (some ⟨b, 0, none⟩))) w') (hrun : (execOp (s.ev n) ⟨d, op, ty, pos, af, none⟩).run P w = .ok (.value (.pointer (some ⟨w.heap.size, 0, none⟩))) (w.alloc (.cells l.toArray E (0, 0))) := by kernel_rfl) (hd : notDefer op = true := by kernel_rfl) : L r P n ops Q (⟨d, op, ty, pos, af, none⟩ :: rest) s w :=
 L_new (fun b => .pointer (some ⟨b, 0, none⟩)) _ hrun hd h
theorem zM {op : Op} (m : Nat) (l : List Value) (E : TypeId) (h : ∀ b w', New w w' b (.cells l.toArray E (0, 0)) → L r P n ops Q rest (s.put d (.slice (some ⟨b, 0, none⟩) m m)) w') (hrun : (execOp (s.ev n) ⟨d, op, ty, pos, af, none⟩).run P w = .ok (.value (.slice (some ⟨w.heap.size, 0, none⟩) m m)) (w.alloc (.cells l.toArray E (0, 0))) := by kernel_rfl) (hd : notDefer op = true := by kernel_rfl) : L r P n ops Q (⟨d, op, ty, pos, af, none⟩ :: rest) s w :=
 L_new (fun b => .slice (some ⟨b, 0, none⟩) m m) _ hrun hd h
theorem zO {b : Nat} {cs : List Value} {E : TypeId} {fz : Nat × Nat} {v : Value} (o : Nat) (hb : w.heap[b]? = some (.cells cs.toArray E fz)) (hv : cs[o]? = some v) (h : L r P n ops Q rest (s.put d v) w) (hx : s.ev n X = .pointer (some ⟨b, o, none⟩) := by kernel_rfl) (ha : (isAgg t).run P w = .ok false w := by kernel_rfl) : L r P n ops Q (⟨d, .load t X, ty, pos, af, none⟩ :: rest) s w :=
 yK b o v hx ha (zK hb (by simpa using hv)) h
theorem zOA {b : Nat} {cs : List Value} {E : TypeId} {fz : Nat × Nat} (o : Nat) (vs : List Value) (hb : w.heap[b]? = some (.cells cs.toArray E fz)) (h : L r P n ops Q rest (s.put d (.agg vs.toArray)) w) (hx : s.ev n X = .pointer (some ⟨b, o, none⟩) := by kernel_rfl) (ha : (isAgg t).run P w = .ok true w := by kernel_rfl) (hz : (sizeOf t).run P w = .ok vs.length w := by kernel_rfl) (he : (cs.drop o).take vs.length = vs := by kernel_rfl) : L r P n ops Q (⟨d, .load t X, ty, pos, af, none⟩ :: rest) s w :=
 L_loadA b o vs hx ha hz (cells_at hb o he) h
theorem wG {b : Nat} {cs : List Value} {E : TypeId} {fz : Nat × Nat} (hb : w.heap[b]? = some (.cells cs.toArray E fz)) (h : L r P n ops Q rest (s.put d (.agg cs.toArray)) w) (hx : s.ev n X = .pointer (some ⟨b, 0, none⟩) := by kernel_rfl) (ha : (isAgg t).run P w = .ok true w := by kernel_rfl) (hz : (sizeOf t).run P w = .ok cs.length w := by kernel_rfl) : L r P n ops Q (⟨d, .load t X, ty, pos, af, none⟩ :: rest) s w :=
 L_loadA b 0 cs hx ha hz (wE hb) h
theorem wB {b : Nat} {cs : List Value} {E : TypeId} {fz : Nat × Nat} {v : Value} {op : Op} {d1 : Tmp} {d2 : Option Tmp} {ty2 : TypeId} {pos2 : String} {af2 : Array Edge} (o : Nat) (hb : w.heap[b]? = some (.cells cs.toArray E fz)) (hv : cs[o]? = some v)
  (h : L r P n ops Q rest ((s.put (some d1) (.pointer (some ⟨b, o, none⟩))).put d2 v) w)
  (hrun : (execOp (s.ev n) ⟨some d1, op, ty, pos, af, none⟩).run P w = .ok (.value (.pointer (some ⟨b, o, none⟩))) w := by kernel_rfl) (hd : notDefer op = true := by kernel_rfl)
  (hlt : Nat.blt d1 n = true := by kernel_rfl) (ha : (isAgg t).run P w = .ok false w := by kernel_rfl) : L r P n ops Q (⟨some d1, op, ty, pos, af, none⟩ :: ⟨d2, .load t (.tmp d1), ty2, pos2, af2, none⟩ :: rest) s w :=
 L_run _ hrun hd (yK b o v (by simp [Fm.ev, Fm.put, hlt]) ha (zK hb (by simpa using hv)) h)
theorem z1 {b : Nat} {cs : List Value} {E : TypeId} (o : Nat) (v : Value) (cs' : List Value) (hb : w.heap[b]? = some (.cells cs.toArray E (0, 0)))
  (h : ∀ w', Wrote w w' b (.cells cs'.toArray E (0, 0)) → L r P n ops Q rest (s.put d undef) w') (h1 : v.oneCell' = true := by rfl) (hx : s.ev n X = .pointer (some ⟨b, o, none⟩) := by kernel_rfl) (hy : s.ev n Y = v := by kernel_rfl) (hz : (sizeOf t).run P w = .ok 1 w := by kernel_rfl) (ho : Nat.blt o cs.length = true := by rfl) (hcs : cs.set o v = cs' := by rfl) : L r P n ops Q (⟨d, .store t X Y, ty, pos, af, none⟩ :: rest) s w :=
 yQ b o v cs cs' E hx hy h1 hz hb (by rw [blt_iff] at ho; simpa using ho) hcs h
theorem qC {b : Nat} {cs : List Value} {E : TypeId} (vs : List Value) (hb : w.heap[b]? = some (.cells cs.toArray E (0, 0)))
  (h : ∀ w', Wrote w w' b (.cells vs.toArray E (0, 0)) → L r P n ops Q rest (s.put d undef) w') (h1 : vs.all (·.oneCell') = true := by rfl) (hx : s.ev n X = .pointer (some ⟨b, 0, none⟩) := by kernel_rfl) (hy : s.ev n Y = .agg vs.toArray := by kernel_rfl) (hz : (sizeOf t).run P w = .ok vs.length w := by kernel_rfl) (ho : Nat.beq vs.length cs.length = true := by kernel_rfl) : L r P n ops Q (⟨d, .store t X Y, ty, pos, af, none⟩ :: rest) s w :=
 L_storeA b 0 vs cs vs E hx hy h1 hz hb (by have := Nat.eq_of_beq_eq_true ho; simp [this]) (by have := Nat.eq_of_beq_eq_true ho; simp [this]) h
theorem zE {α : Type} {enc : α → List Value} {v : Value} {xs : List α} {x : α} {u : Value} {I : Operand} {T T2 E ke by_ kf : Nat} {d1 d2 : Tmp} {d3 : Option Tmp} {ty2 ty3 : TypeId} {pos2 pos3 : String} {af2 af3 : Array Edge}
  (hr : Rd w enc v xs) (he : Elem P T E ke by_) (i : Nat) (hi : xs[i]? = some x) (j : Nat) (hu : (enc x)[j]? = some u)
  (h : ∀ p q : Value, L r P n ops Q rest (((s.put (some d1) p).put (some d2) q).put d3 u) w)
  (hk : ∀ x, (enc x).length = ke := by exact fun _ => rfl) (hx : s.ev n X = v := by kernel_rfl) (hii : s.ev n I = .int .i64 i := by kernel_rfl)
  (hf : ∀ g o, (execOp ((s.put (some d1) (.pointer (some ⟨g, o, none⟩))).ev n) ⟨some d2, .fieldAddr T2 (.tmp d1) kf, ty2, pos2, af2, none⟩).run P w = .ok (.value (.pointer (some ⟨g, o + j, none⟩))) w := by exact fun _ _ => by kernel_rfl)
  (hlt : Nat.blt d2 n = true := by kernel_rfl) (ha : (isAgg t).run P w = .ok false w := by kernel_rfl) :
  L r P n ops Q (⟨some d1, .indexAddr T X I, ty, pos, af, none⟩ :: ⟨some d2, .fieldAddr T2 (.tmp d1) kf, ty2, pos2, af2, none⟩ :: ⟨d3, .load t (.tmp d2), ty3, pos3, af3, none⟩ :: rest) s w := by
 obtain ⟨g, off, hl, hc⟩ := hr.at hk hi
 refine xO (k := .i64) v i _ g off he hl (List.getElem?_eq_some_iff.1 hi).1 hx hii (L_run _ (hf g _) rfl ?_)
 exact yK g (off + i * ke + j) u (by simp [Fm.ev, Fm.put, hlt]) ha (hc j u hu) (h _ _)
theorem zE1 {α : Type} {enc : α → List Value} {v : Value} {xs : List α} {x : α} {u : Value} {I : Operand} {T E by_ : Nat} {d1 : Tmp} {d3 : Option Tmp} {ty3 : TypeId} {pos3 : String} {af3 : Array Edge}
  (hr : Rd w enc v xs) (he : Elem P T E 1 by_) (i : Nat) (hi : xs[i]? = some x) (hu : (enc x)[0]? = some u)
  (h : ∀ p : Value, L r P n ops Q rest ((s.put (some d1) p).put d3 u) w)
  (hk : ∀ x, (enc x).length = 1 := by exact fun _ => rfl) (hx : s.ev n X = v := by kernel_rfl) (hii : s.ev n I = .int .i64 i := by kernel_rfl)
  (hlt : Nat.blt d1 n = true := by kernel_rfl) (ha : (isAgg t).run P w = .ok false w := by kernel_rfl) :
  L r P n ops Q (⟨some d1, .indexAddr T X I, ty, pos, af, none⟩ :: ⟨d3, .load t (.tmp d1), ty3, pos3, af3, none⟩ :: rest) s w := by
 obtain ⟨g, off, hl, hc⟩ := hr.at hk hi
 refine xO (k := .i64) v i _ g off he hl (List.getElem?_eq_some_iff.1 hi).1 hx hii ?_
 exact yK g (off + i * 1) u (by simp [Fm.ev, Fm.put, hlt]) ha (hc 0 u hu) (h _)
theorem zEA {α : Type} {enc : α → List Value} {v : Value} {xs : List α} {x : α} {I : Operand} {T E ke by_ : Nat} {d1 : Tmp} {d3 : Option Tmp} {ty3 : TypeId} {pos3 : String} {af3 : Array Edge}
  (hr : Rd w enc v xs) (he : Elem P T E ke by_) (i : Nat) (hi : xs[i]? = some x) (us : List Value) (hu : enc x = us)
  (h : ∀ p : Value, L r P n ops Q rest ((s.put (some d1) p).put d3 (.agg us.toArray)) w)
  (hk : ∀ x, (enc x).length = ke := by exact fun _ => rfl) (hx : s.ev n X = v := by kernel_rfl) (hii : s.ev n I = .int .i64 i := by kernel_rfl)
  (hlt : Nat.blt d1 n = true := by kernel_rfl) (ha : (isAgg t).run P w = .ok true w := by kernel_rfl) (hz : (sizeOf t).run P w = .ok us.length w := by kernel_rfl) :
  L r P n ops Q (⟨some d1, .indexAddr T X I, ty, pos, af, none⟩ :: ⟨d3, .load t (.tmp d1), ty3, pos3, af3, none⟩ :: rest) s w := by
 subst hu
 obtain ⟨g, off, hl, hc⟩ := hr.at hk hi
 refine xO (k := .i64) v i _ g off he hl (List.getElem?_eq_some_iff.1 hi).1 hx hii ?_
 exact L_loadA g (off + i * ke) (enc x) (by simp [Fm.ev, Fm.put, hlt]) ha hz hc (h _)
end ops
def rvs (n : Nat) (s : Fm) (fn : Func) : List Value := fn.results.toList.map fun | .tmp t => s.ev n (.tmp t) | _ => undef
def rOk (fn : Func) : Bool := fn.results.toList.all fun | .tmp _ => true | _ => false
section
variable {P : Program} {n : Nat} {s : Fm} {w : World}
theorem res_vs : ∀ (l : List ResultVar), (l.all fun | .tmp _ => true | _ => false) = true → resOk P n s w l (l.map fun | .tmp t => s.ev n (.tmp t) | _ => undef)
 | [], _ => trivial
 | .tmp t :: l, h => ⟨rfl, res_vs l (by simpa using h)⟩
 | .cell _ _ :: l, h => by simp at h
theorem yJ {fn : Func} {R : Value → World → Prop} (vs : List Value) (h : R (match vs with | [v] => v | _ => .tuple vs.toArray) w) (hv : rvs n s fn = vs := by kernel_rfl) (hr : rOk fn = true := by kernel_rfl) (hd : s.ds = [] := by rfl) : endQ P fn n R .ret s w := by
 subst hv
 have hh : resOk P n s w fn.results.toList (rvs n s fn) := res_vs _ hr
 refine qI fn.results.toList (rvs n s fn) (by simp) hd hh ?_
 clear hr
 generalize rvs n s fn = vs at h hh ⊢
 cases vs with
 | nil => exact h
 | cons v l => cases l <;> exact h
theorem znrm {fn : Func} {R : Value → World → Prop} (vs : List Value) (h : R (match vs with | [v] => v | _ => .tuple vs.toArray) w) (hv : rvs n s fn = vs := by kernel_rfl) (hr : rOk fn = true := by kernel_rfl) (hd : s.ds = [] := by rfl) : endQ P fn n R .normal s w := by
 subst hv
 have hh : resOk P n s w fn.results.toList (rvs n s fn) := res_vs _ hr
 refine end_normal fn.results.toList (rvs n s fn) (by simp) hd hh ?_
 clear hr
 generalize rvs n s fn = vs at h hh ⊢
 cases vs with
 | nil => exact h
 | cons v l => cases l <;> exact h
end
def putS (s : Fm) : List Nat → List Value → Fm
  | d :: ds, v :: vs => putS (s.put (some d) v) ds vs
  | _, _ => s
theorem W_setL {r : Option Nat} {P : Program} {n : Nat} {c : Code} {Q : Post} {w : World} : ∀ (ts : List Nat) (vs : List Value) (s : Fm), ts.map s.f = vs → W r P n c Q (putS s ts vs) w → W r P n c Q s w
 | [], [], _, _, h => h
 | t :: ts, v :: vs, s, he, h => by
  simp only [List.map_cons, List.cons.injEq] at he
  refine W_set t v he.1 ?_
  refine W_setL ts vs _ ?_ h
  obtain ⟨b, a⟩ := he
  rw [← a]
  refine List.map_congr_left fun i _ => ?_
  show (bif Nat.beq i t then v else s.f i) = s.f i
  cases hq : Nat.beq i t with
  | false => rfl
  | true => rw [Nat.eq_of_beq_eq_true hq]; exact b.symm
 | [], _ :: _, _, he, _ => by simp at he
 | _ :: _, [], _, he, _ => by simp at he
theorem wF {r : Option Nat} {P : Program} {n : Nat} {c : Code} {Q : Post} {s : Fm} {w : World} {ts : List Nat} {vs : List Value} (h : ts.map s.f = vs) (k : W r P n c Q (putS s ts vs) w) : W r P n c Q s w := W_setL ts vs s h k
end Go.FK
end

/- === FKar === -/
section
/- FKar: more short laws for the walks' texts. My own text. -/
namespace Go.FK
open Go Go.RowKit
theorem zh {p : Prop} (h : p := by simp only [arithZ]; omega) : p := h
theorem zi {p : Prop} (h : p := by simp) : p := h
theorem zj {α : Sort _} {p : α → Prop} (h : ∀ x, p x := by exact fun _ => rfl) : ∀ x, p x := h
theorem zf {α : Sort _} {p : α → Prop} (h : ∀ x, p x := by intro _; kernel_rfl) : ∀ x, p x := h
theorem zg {α : Sort _} {β : α → Sort _} {p : (x : α) → β x → Prop} (h : ∀ x y, p x y := by intro _ _; kernel_rfl) : ∀ x y, p x y := h
theorem e6 {a b : Int} (h : a = b) : Value.int .i64 a = Value.int .i64 b := by rw [h]
theorem e3 {a b : Int} (h : a = b) : Value.int .i32 a = Value.int .i32 b := by rw [h]
theorem eu {a b : Int} (h : a = b) : Value.int .u8 a = Value.int .u8 b := by rw [h]
theorem e8 {a b : Int} (h : a = b) : Value.int .i8 a = Value.int .i8 b := by rw [h]
theorem eb {a b : Bool} (h : a = b) : Value.bool a = Value.bool b := by rw [h]
section
variable {r : Option Nat} {P : Program} {n : Nat} {Q Q2 : Post} {s : Fm} {w : World} {ops : Array Oper}
theorem wL (k : Nat) {f : FuncId} {fn : Func} {c : Code} {args : List Value} {R : Value → World → Prop} (hf : P.funcs[f]? = some fn) (hb : fn.body = some c) (h : W none P k c (endQ P fn k R) ⟨fun i => args.getD i undef, []⟩ w) (hn : fn.ntmps = k := by kernel_rfl) (hk : Nat.ble args.length k = true := by kernel_rfl) : Calls P f args.toArray w (Ret R) :=
 enter hf hb hn hk h
theorem nQ {K : Fm → World → Prop} (h : K s w) : L r P n ops (thenQ K Q) [] s w := zR (zB h)
theorem nW {x y : Code} (h : W r P n x (thenQ (W r P n y Q) Q) s w) : L r P n ops (thenQ (W r P n (.seq x y) Q) Q2) [] s w := zR (zB (yA h))
theorem wR {id : Nat} {l : List Oper} {y : Code} (h : L r P n l.toArray (thenQ (W r P n y Q) Q) l s w) : W r P n (.seq (.region id l.toArray false) y) Q s w := yA (zW h)
theorem nR {id : Nat} {l : List Oper} {y : Code} (h : L r P n l.toArray (thenQ (W r P n y Q) Q) l s w) : L r P n ops (thenQ (W r P n (.seq (.region id l.toArray false) y) Q) Q2) [] s w := zR (zB (yA (zW h)))
end
section
variable {P : Program} {n : Nat} {Q : Post} {s : Fm} {w : World} {ops : Array Oper} {S : World → Prop} {fuel : Nat} {listed : Array Bool}
theorem ht (i : Nat) {o : Oper} (hi : ops[i]? = some o) (v : Value) (hS : S w) (hrun : RunOk P n o s S v) (h : Lh P n ops Q S fuel (listed.setIfInBounds i true) (s.put o.dst v) w)
  (hs : Region.noSelect ops = true := by kernel_rfl) (hf : Region.free .any ops listed i = true := by kernel_rfl) (hr : (Region.ready .any ops listed).contains i = true := by kernel_rfl) (hw : wantB ops n s o.guard = true := by kernel_rfl)
  (hq : NoPanic Q := by with_reducible repeat first | exact zU | exact noPanic_endM | exact noPanic_round | apply zD | apply zQ | apply noPanic_jmp) : Lh P n ops Q S (fuel + 1) listed s w :=
 H_take i v hi hs hf hr hq hS hw hrun h
theorem hp (i : Nat) {o : Oper} (hi : ops[i]? = some o) (v : Value) (hS : S w) (h : Lh P n ops Q S fuel (listed.setIfInBounds i true) (s.put o.dst v) w)
  (hs : Region.noSelect ops = true := by kernel_rfl) (hf : Region.free .any ops listed i = true := by kernel_rfl) (hr : (Region.ready .any ops listed).contains i = true := by kernel_rfl) (hw : wantB ops n s o.guard = true := by kernel_rfl)
  (hq : NoPanic Q := by with_reducible repeat first | exact zU | exact noPanic_endM | exact noPanic_round | apply zD | apply zQ | apply noPanic_jmp) (hrun : RunOk P n o s S v := by intro _ _; kernel_rfl) : Lh P n ops Q S (fuel + 1) listed s w :=
 H_take i v hi hs hf hr hq hS hw hrun h
theorem ip (i : Nat) {o : Oper} (hi : ops[i]? = some o) (v : Value) (h : Li P n ops Q fuel (listed.setIfInBounds i true) (s.put o.dst v) w)
  (hs : Region.noSelect ops = true := by kernel_rfl) (hf : Region.free .any ops listed i = true := by kernel_rfl) (hr : (Region.ready .any ops listed).contains i = true := by kernel_rfl) (hc : noCall o.op = true := by kernel_rfl) (hw : wantB ops n s o.guard = true := by kernel_rfl)
  (hq : NoPanic Q := by with_reducible repeat first | exact zU | exact noPanic_endM | exact noPanic_round | apply zD | apply zQ | apply noPanic_jmp) (hrun : ∀ w', (execOp (s.ev n) o).run P w' = .ok (.value v) w' := by intro _; kernel_rfl) : Li P n ops Q (fuel + 1) listed s w :=
 I_take i v hi hs hf hr hc hq hw hrun h
end
section
variable {P : Program} {n : Nat} {s : Fm} {w : World} {ops : Array Oper} {rest : List Oper} {K : Fm → Prop} {d : Option Tmp} {ty : TypeId} {pos : String} {af : Array Edge} {c X Y : Operand}
theorem qw {op : Op} {g : Nat × Bool} (h : Lq P n ops w K (⟨d, op, ty, pos, af, none⟩ :: rest) s) (hg : Option.elim (yl ops n s g.1) false (fun b => b == g.2) = true := by kernel_rfl) : Lq P n ops w K (⟨d, op, ty, pos, af, some g⟩ :: rest) s := Lq_want hg h
theorem qs {op : Op} {g : Nat × Bool} (h : Lq P n ops w K rest (s.put d undef)) (hg : Option.elim (yl ops n s g.1) false (fun b => b == g.2) = false := by kernel_rfl) : Lq P n ops w K (⟨d, op, ty, pos, af, some g⟩ :: rest) s := Lq_skip hg h
theorem qT (h : Lq P n ops w K rest (s.put d (s.ev n X))) (hc : s.ev n c = .bool true := by kernel_rfl) : Lq P n ops w K (⟨d, .pick c X Y, ty, pos, af, none⟩ :: rest) s := Lq_pickT hc h
theorem qF (h : Lq P n ops w K rest (s.put d (s.ev n Y))) (hc : s.ev n c = .bool false := by kernel_rfl) : Lq P n ops w K (⟨d, .pick c X Y, ty, pos, af, none⟩ :: rest) s := Lq_pickF hc h
theorem qr {op : Op} (v : Value) (h : Lq P n ops w K rest (s.put d v)) (hrun : ∀ w', (execOp (s.ev n) ⟨d, op, ty, pos, af, none⟩).run P w' = .ok (.value v) w' := by intro _; kernel_rfl) : Lq P n ops w K (⟨d, op, ty, pos, af, none⟩ :: rest) s := zV v hrun h
end
end Go.FK
end

/- === Wghex === -/
section
/- Walks, written by my program walk.py out of the specification ghex.py: each theorem says what one function returns and that it leaves memory as it was. -/
namespace Go.Proofs.Ythjgnnfonofgkaa
open Go Go.RowKit Go.FK
set_option maxHeartbeats 4000000
set_option maxRecDepth 100000
theorem c_strings_IndexByte (s : List UInt8) (c : Int) (w : World) :
  Calls Try.prog 131 #[(S s), (U8 c)] w (Ret fun v w' => v = (I6 (ibF s c)) ∧ Below w.heap.size w w') :=
 indexByte_contract Try.strings_IndexByte s c w
theorem c_points_May (lo : Int) (hi : Int) (w : World) :
  Calls Try.prog 50 #[(Value.agg #[(I3 lo), (I3 hi)])] w (Ret fun v w' => v = (.bool (mayF lo hi)) ∧ Below w.heap.size w w') := by
 refine wL 18 Try.func50 rfl ?_
 have b := Below.refl w.heap.size w
 refine wR (zN [(I3 lo), (I3 hi)] 29 ?_)
 intro d l c
 have e := c.ge b.size
 have a := c.here
 refine zI (nR (wB 0 a rfl (zGe .i32 lo 0 ?_ ?_)))
 ·intro j
  refine zG (zw (zr (pt d 0) (zw (zO 0 a rfl (zw (zr (pt d 1) (zw (zO 1 a rfl (zw (zLe .i32 lo hi ?_ ?_))))))))))
  ·intro f
   refine xN (zG (zw (zr (pt d 1) (zw (zO 1 a rfl (zw (zLe .i32 hi 1114111 ?_ ?_)))))))
   ·intro k
    have b := b.tr c.below
    exact xN (zI (nQ (yB (yJ [(.bool true)] ⟨eb (by exact (mayF_true zo zo zo).symm), b⟩))))
   intro g
   have b := b.tr c.below
   exact xN (zI (nQ (yB (yJ [(.bool false)] ⟨eb (by exact (mayF_false zo).symm), b⟩))))
  intro i
  have b := b.tr c.below
  exact xN (zG (zs (zs (zs (zpF (zI (nQ (yB (yJ [(.bool false)] ⟨eb (by exact (mayF_false zo).symm), b⟩)))))))))
 intro h
 have b := b.tr c.below
 exact zG (zs (zs (zs (zs (zs (zpF (zG (zs (zs (zs (zpF (zI (nQ (yB (yJ [(.bool false)] ⟨eb (by exact (mayF_false zo).symm), b⟩)))))))))))))))
theorem qJ (lo : Int) (hi : Int) (w : World) :
  Calls Try.prog 138 #[(Value.agg #[(I3 lo), (I3 hi)])] w (Ret fun v w' => v = (.bool (mayF lo hi)) ∧ Below w.heap.size w w') := by
 refine wL 18 Try.func138 rfl ?_
 have b := Below.refl w.heap.size w
 refine wR (zN [(I3 lo), (I3 hi)] 29 ?_)
 intro d l c
 have e := c.ge b.size
 have a := c.here
 refine zI (nR (wB 0 a rfl (zGe .i32 lo 0 ?_ ?_)))
 ·intro j
  refine zG (zw (zr (pt d 1) (zw (zO 1 a rfl (zw (zLe .i32 hi 1114111 ?_ ?_))))))
  ·intro f
   refine xN (zG (zw (zr (pt d 0) (zw (zO 0 a rfl (zw (zr (pt d 1) (zw (zO 1 a rfl (zw (zLe .i32 lo hi ?_ ?_)))))))))))
   ·intro k
    have b := b.tr c.below
    exact xN (zI (nQ (yB (yJ [(.bool true)] ⟨eb (by exact (mayF_true zo zo zo).symm), b⟩))))
   intro g
   have b := b.tr c.below
   exact xN (zI (nQ (yB (yJ [(.bool false)] ⟨eb (by exact (mayF_false zo).symm), b⟩))))
  intro i
  have b := b.tr c.below
  exact xN (zG (zs (zs (zs (zs (zs (zpF (zI (nQ (yB (yJ [(.bool false)] ⟨eb (by exact (mayF_false zo).symm), b⟩)))))))))))
 intro h
 have b := b.tr c.below
 exact zG (zs (zs (zs (zpF (zG (zs (zs (zs (zs (zs (zpF (zI (nQ (yB (yJ [(.bool false)] ⟨eb (by exact (mayF_false zo).symm), b⟩)))))))))))))))
theorem c_points_Hex (s : List UInt8) (w : World) (hs : s.length ≤ 1073741824) :
  Calls Try.prog 91 #[(S s)] w (Ret fun v w' => v = (.tuple #[(I3 ((hexF s).1)), (I6 ((hexF s).2))]) ∧ Below w.heap.size w w') := by
 refine wL 45 Try.func91 rfl ?_
 have c := Below.refl w.heap.size w
 refine wR (zI (zI (nW (wR (zG (zsl 9 s (nLt ((s).length) 4 ?_ ?_)))))))
 ·intro h1
  exact zG (zs (zs (zs (xN (zG (zs (zs (zs (zs (zs (zs (zs (zs (xN (nQ (zT (wR (zI (zI (nQ (yB (zP (yJ [(I3 0), (I6 40)] ⟨qP (e3 (by (rw [hexF_len zo]; done))) (e6 (by (rw [hexF_len zo]; done))), c⟩)))))))))))))))))))))))
 intro h2
 refine zG (zw (zG (zw (zsl 9 s (zw (nGt ((s).length) 6 ?_ ?_))))))
 ·intro h3
  exact zpF (zG (zs (zs (zs (zs (zs (zs (zs (zs (xN (nQ (zT (wR (zI (zI (nQ (yB (zP (yJ [(I3 0), (I6 40)] ⟨qP (e3 (by (rw [hexF_len zo]; done))) (e6 (by (rw [hexF_len zo]; done))), c⟩)))))))))))))))))))
 intro h4
 refine zpF (zG (zw (zG (zw (zsl 9 s (zw (nGt ((s).length) 4 ?_ ?_)))))))
 ·intro h5
  refine zw (zG (zw (zG (zw ?_))))
  have q := yN s 0 zo; obtain ⟨h, y⟩ := q
  have := h.toNat_lt
  have u := digitV_range h.toNat
  have g := ibF_tab h
  refine L_sindex (k := .i64) s 0 h Try.underlying9 y zk zk (zw (L_cmp .u8 ((h.toNat : Nat) : Int) ((48 : Nat) : Int) (h.toNat = 48) rfl (cmpN_eq h.toNat 48) zk zk ?_ ?_))
  ·intro h8
   replace h8 : h.toNat = 48 := by omega
   exact zw (xN (zpF (nQ (zT (wR (zI (zI (nQ (yB (zP (yJ [(I3 0), (I6 40)] ⟨qP (e3 (by (rw [hexF_zero zo za zo]; done))) (e6 (by (rw [hexF_zero zo za zo]; done))), c⟩)))))))))))
  intro h9
  replace h9 : h.toNat ≠ 48 := by omega
  refine zw (xN (zpF (nQ (zF (zZ (zB (wR (zI (nW (wR (zG (zsl 9 s (zG (nQ (yC (wH (fun m s0 w0 => ∃ (i : Nat) (n : Nat), (m = s.length - i) ∧ (s0.ds = []) ∧ ([0, 26, 4, 27].map s0.f = [(S s), (N6 ((s).length)), (I3 ((n : Nat) : Int)), (N6 i)]) ∧ (Below w.heap.size w w0) ∧ (i ≤ s.length) ∧ (n < 16 ^ i) ∧ (hexV (s.drop i) n = hexV s 0)) _ ⟨0, 0, rfl, zk, zk, c, by omega, by decide, rfl⟩ ?_))))))))))))))))
  rintro au a0 ay ⟨i, n, hm, d, o, c, i1, p, e⟩
  refine wF o ?_
  have ac : i ≤ 5 → n < 1048576 := pow16 p
  have z : i ≤ 6 → n < 16777216 := pow166 p
  refine wR (nLt i ((s).length) ?_ ?_)
  ·intro av
   refine nW (zT (zZ (zB (yA (yC (wR (zG (zI (nR (zG (zG ?_)))))))))))
   have q := yN s i zo; obtain ⟨b, t⟩ := q
   have := b.toNat_lt
   have u := digitV_range b.toNat
   have g := ibF_tab b
   refine L_sindex (k := .i64) s i b Try.underlying9 t zk zk (zc (c_strings_IndexByte ([48, 49, 50, 51, 52, 53, 54, 55, 56, 57, 65, 66, 67, 68, 69, 70] : List UInt8) ((b.toNat : Nat) : Int) _ ) ?_)
   rintro _ ao ⟨rfl, l⟩
   refine zI (nW (wR (zG (zLt .i64 (ibF ([48, 49, 50, 51, 52, 53, 54, 55, 56, 57, 65, 66, 67, 68, 69, 70] : List UInt8) ((b.toNat : Nat) : Int)) 0 ?_ ?_))))
   ·intro ak
    have c := c.tr l
    exact nQ (zT (wR (zI (zI (nQ (yB (zP (yG (zP (zP (yG (zP (yJ [(I3 0), (I6 40)] (hd := d) ⟨qP (e3 (by (rw [hexF_bad e za zo]; done))) (e6 (by (rw [hexF_bad e za zo]; done))), c⟩)))))))))))))
   intro ap
   refine nQ (zF (zZ (zB (zW (zG (L_shl (k := .i32) (yk := .u64) ((n : Nat) : Int) (((16 * n) : Nat) : Int) 4 16 rfl zk zk zk (by rw [xD _ zo zo]; omega) (zG (L_conv (k := .i64) (ibF ([48, 49, 50, 51, 52, 53, 54, 55, 56, 57, 65, 66, 67, 68, 69, 70] : List UInt8) ((b.toNat : Nat) : Int)) (ibF ([48, 49, 50, 51, 52, 53, 54, 55, 56, 57, 65, 66, 67, 68, 69, 70] : List UInt8) ((b.toNat : Nat) : Int)) zk Try.underlying21 zk (xD _ zo zo) (L_orD (((16 * n) : Nat) : Int) (ibF ([48, 49, 50, 51, 52, 53, 54, 55, 56, 57, 65, 66, 67, 68, 69, 70] : List UInt8) ((b.toNat : Nat) : Int)) n ((ibF ([48, 49, 50, 51, 52, 53, 54, 55, 56, 57, 65, 66, 67, 68, 69, 70] : List UInt8) ((b.toNat : Nat) : Int)).toNat) zo zo zk zk (zI (zR (zS (zB (zW (vG i 1 (zG (zR ?_)))))))))))))))))
   have c := c.tr l
   refine zB ⟨_, zo, (i + 1), (16 * n + ((ibF ([48, 49, 50, 51, 52, 53, 54, 55, 56, 57, 65, 66, 67, 68, 69, 70] : List UInt8) ((b.toNat : Nat) : Int)).toNat)), rfl, d, zk, c, zo, ?_, ?_⟩
   ·rw [g]; exact pow16s p zo
   rw [g]; exact hexV_step e za zo
  intro af
  refine nW (zF (yZ (yE (yE (yP (zB (yA (wR (zG (L_cmp .i32 ((n : Nat) : Int) ((1114111 : Nat) : Int) (1114111 < n) rfl (cmpN_gt n 1114111) zk zk ?_ ?_))))))))))
  ·intro ab
   replace ab : 1114111 < n := by omega
   exact nQ (zT (wR (zI (zI (nQ (yB (zP (yJ [(I3 0), (I6 40)] (hd := d) ⟨qP (e3 (by (rw [hexF_big (hexV_end e zo) zo]; done))) (e6 (by (rw [hexF_big (hexV_end e zo) zo]; done))), c⟩))))))))
  intro ad
  replace ad : n ≤ 1114111 := by omega
  exact nQ (zF (zZ (zB (wR (zG (zI (zI (nQ (yB (yJ [(I3 ((n : Nat) : Int)), (I6 0)] (hd := d) ⟨qP (e3 (by (rw [hexF_ok (hexV_end e zo) zo zo zo (.inr ⟨_, by assumption, by omega⟩)]; done))) (e6 (by (rw [hexF_ok (hexV_end e zo) zo zo zo (.inr ⟨_, by assumption, by omega⟩)]; done))), c⟩))))))))))
 intro ax
 refine zw (zG (zs (zs (zs (zw (zpF (zpF (nQ (zF (zZ (zB (wR (zI (nW (wR (zG (zsl 9 s (zG (nQ (yC (wH (fun m s0 w0 => ∃ (i : Nat) (n : Nat), (m = s.length - i) ∧ (s0.ds = []) ∧ ([0, 26, 4, 27].map s0.f = [(S s), (N6 ((s).length)), (I3 ((n : Nat) : Int)), (N6 i)]) ∧ (Below w.heap.size w w0) ∧ (i ≤ s.length) ∧ (n < 16 ^ i) ∧ (hexV (s.drop i) n = hexV s 0)) _ ⟨0, 0, rfl, zk, zk, c, by omega, by decide, rfl⟩ ?_)))))))))))))))))))))
 rintro aj ar ag ⟨i, n, hm, d, o, c, i1, p, e⟩
 refine wF o ?_
 have ac : i ≤ 5 → n < 1048576 := pow16 p
 have z : i ≤ 6 → n < 16777216 := pow166 p
 refine wR (nLt i ((s).length) ?_ ?_)
 ·intro an
  refine nW (zT (zZ (zB (yA (yC (wR (zG (zI (nR (zG (zG ?_)))))))))))
  have q := yN s i zo; obtain ⟨a, r⟩ := q
  have := a.toNat_lt
  have u := digitV_range a.toNat
  have g := ibF_tab a
  refine L_sindex (k := .i64) s i a Try.underlying9 r zk zk (zc (c_strings_IndexByte ([48, 49, 50, 51, 52, 53, 54, 55, 56, 57, 65, 66, 67, 68, 69, 70] : List UInt8) ((a.toNat : Nat) : Int) _ ) ?_)
  rintro _ a1 ⟨rfl, j⟩
  refine zI (nW (wR (zG (zLt .i64 (ibF ([48, 49, 50, 51, 52, 53, 54, 55, 56, 57, 65, 66, 67, 68, 69, 70] : List UInt8) ((a.toNat : Nat) : Int)) 0 ?_ ?_))))
  ·intro al
   have c := c.tr j
   exact nQ (zT (wR (zI (zI (nQ (yB (zP (yG (zP (zP (yG (zP (yJ [(I3 0), (I6 40)] (hd := d) ⟨qP (e3 (by (rw [hexF_bad e za zo]; done))) (e6 (by (rw [hexF_bad e za zo]; done))), c⟩)))))))))))))
  intro am
  refine nQ (zF (zZ (zB (zW (zG (L_shl (k := .i32) (yk := .u64) ((n : Nat) : Int) (((16 * n) : Nat) : Int) 4 16 rfl zk zk zk (by rw [xD _ zo zo]; omega) (zG (L_conv (k := .i64) (ibF ([48, 49, 50, 51, 52, 53, 54, 55, 56, 57, 65, 66, 67, 68, 69, 70] : List UInt8) ((a.toNat : Nat) : Int)) (ibF ([48, 49, 50, 51, 52, 53, 54, 55, 56, 57, 65, 66, 67, 68, 69, 70] : List UInt8) ((a.toNat : Nat) : Int)) zk Try.underlying21 zk (xD _ zo zo) (L_orD (((16 * n) : Nat) : Int) (ibF ([48, 49, 50, 51, 52, 53, 54, 55, 56, 57, 65, 66, 67, 68, 69, 70] : List UInt8) ((a.toNat : Nat) : Int)) n ((ibF ([48, 49, 50, 51, 52, 53, 54, 55, 56, 57, 65, 66, 67, 68, 69, 70] : List UInt8) ((a.toNat : Nat) : Int)).toNat) zo zo zk zk (zI (zR (zS (zB (zW (vG i 1 (zG (zR ?_)))))))))))))))))
  have c := c.tr j
  refine zB ⟨_, zo, (i + 1), (16 * n + ((ibF ([48, 49, 50, 51, 52, 53, 54, 55, 56, 57, 65, 66, 67, 68, 69, 70] : List UInt8) ((a.toNat : Nat) : Int)).toNat)), rfl, d, zk, c, zo, ?_, ?_⟩
  ·rw [g]; exact pow16s p zo
  rw [g]; exact hexV_step e za zo
 intro az
 refine nW (zF (yZ (yE (yE (yP (zB (yA (wR (zG (L_cmp .i32 ((n : Nat) : Int) ((1114111 : Nat) : Int) (1114111 < n) rfl (cmpN_gt n 1114111) zk zk ?_ ?_))))))))))
 ·intro ae
  replace ae : 1114111 < n := by omega
  exact nQ (zT (wR (zI (zI (nQ (yB (zP (yJ [(I3 0), (I6 40)] (hd := d) ⟨qP (e3 (by (exfalso; omega))) (e6 (by (exfalso; omega))), c⟩))))))))
 intro aa
 replace aa : n ≤ 1114111 := by omega
 exact nQ (zF (zZ (zB (wR (zG (zI (zI (nQ (yB (yJ [(I3 ((n : Nat) : Int)), (I6 0)] (hd := d) ⟨qP (e3 (by (rw [hexF_ok (hexV_end e zo) zo zo zo (.inl zo)]; done))) (e6 (by (rw [hexF_ok (hexV_end e zo) zo zo zo (.inl zo)]; done))), c⟩))))))))))
theorem c_strings_Cut (s : List UInt8) (sep : List UInt8) (w : World) {m_ml : Int} (hml : w.cell? ⟨0, 0, none⟩ = some (I6 m_ml)) (hs : s.length ≤ 1073741824) :
  Calls Try.prog 90 #[(S s), (S sep)] w (Ret fun v w' => v = (.tuple #[(S ((Lib.cut s sep).1)), (S ((Lib.cut s sep).2.1)), (.bool ((Lib.cut s sep).2.2))]) ∧ Below w.heap.size w w') :=
 cut_contract Try.strings_Cut s sep w hml hs
theorem c_points_Span (s : List UInt8) (w : World) {m_ml : Int} (hml : w.cell? ⟨0, 0, none⟩ = some (I6 m_ml)) (hs : s.length ≤ 1073741824) :
  Calls Try.prog 47 #[(S s)] w (Ret fun v w' => v = (.tuple #[(Value.agg #[(I3 ((spanF s).1)), (I3 ((spanF s).2.1))]), (I6 ((spanF s).2.2))]) ∧ Below w.heap.size w w') := by
 refine wL 46 Try.func47 rfl ?_
 have e := Below.refl w.heap.size w
 refine wR (zN [(I3 0), (I3 0)] 29 ?_)
 intro n w2 m
 have f := m.ge e.size
 have a := m.here
 have e := e.tr m.below
 refine zI (nR (zG (zc (c_strings_Cut s ([46, 46] : List UInt8) _ (gcell_below hml e) zo) ?_)))
 rintro _ w4 ⟨rfl, c⟩
 have := cut_len s ([46, 46] : List UInt8)
 refine zG (zr (S ((Lib.cut s ([46, 46] : List UInt8)).1)) (zr (S ((Lib.cut s ([46, 46] : List UInt8)).2.1)) (zr (.bool ((Lib.cut s ([46, 46] : List UInt8)).2.2)) (zI (zI (zI (nR (zG (zc (c_points_Hex ((Lib.cut s ([46, 46] : List UInt8)).1) _ zo) ?_)))))))))
 rintro _ w7 ⟨rfl, b⟩
 refine zG (zr (I3 ((hexF ((Lib.cut s ([46, 46] : List UInt8)).1)).1)) (zr (I6 ((hexF ((Lib.cut s ([46, 46] : List UInt8)).1)).2)) (zI (zI (nW (wR (zG (zNe .i64 ((hexF ((Lib.cut s ([46, 46] : List UInt8)).1)).2) 0 ?_ ?_))))))))
 ·intro o
  have a := zA (zA a c) b
  refine nQ (zT (wR (zr (Value.agg #[(I3 0), (I3 0)]) (zG (qC [(I3 0), (I3 0)] a ?_)))))
  intro ac h
  have a := h.here
  refine zI (nQ (yB (zP (qI [.cell 2 29, .tmp 3] [(Value.agg #[(I3 0), (I3 0)]), (I6 ((hexF ((Lib.cut s ([46, 46] : List UInt8)).1)).2))] rfl rfl ⟨⟨⟨n, 0, none⟩, zk, wV [(I3 0), (I3 0)] zk zk (wE a)⟩, zk, trivial⟩ ?_))))
  have e := ((e.tr c).tr b).trans (h.below f)
  exact ⟨qP (by (rw [qV, if_pos zo]; done)) (e6 (by (rw [qV, if_pos zo]; done))), e⟩
 intro ab
 refine nQ (zF (zZ (zB (yA (wR (zG (L_not ((Lib.cut s ([46, 46] : List UInt8)).2.2) zk (nQ ?_))))))))
 rcases Bool.eq_false_or_eq_true (!((Lib.cut s ([46, 46] : List UInt8)).2.2)) with g | g
 ·skip
  have a := zA (zA a c) b
  refine W_ifT g zk (wR (zG (zG (zr (Value.agg #[(I3 ((hexF ((Lib.cut s ([46, 46] : List UInt8)).1)).1)), (I3 ((hexF ((Lib.cut s ([46, 46] : List UInt8)).1)).1))]) (qC [(I3 ((hexF ((Lib.cut s ([46, 46] : List UInt8)).1)).1)), (I3 ((hexF ((Lib.cut s ([46, 46] : List UInt8)).1)).1))] a ?_)))))
  intro u j
  have a := j.here
  refine zI (nQ (yB (zP (qI [.cell 2 29, .tmp 3] [(Value.agg #[(I3 ((hexF ((Lib.cut s ([46, 46] : List UInt8)).1)).1)), (I3 ((hexF ((Lib.cut s ([46, 46] : List UInt8)).1)).1))]), (I6 0)] rfl rfl ⟨⟨⟨n, 0, none⟩, zk, wV [(I3 ((hexF ((Lib.cut s ([46, 46] : List UInt8)).1)).1)), (I3 ((hexF ((Lib.cut s ([46, 46] : List UInt8)).1)).1))] zk zk (wE a)⟩, zk, trivial⟩ ?_))))
  have e := ((e.tr c).tr b).trans (j.below f)
  exact ⟨qP (by (rw [qV, if_neg zo, if_pos (nt za)]; done)) (e6 (by (rw [qV, if_neg zo, if_pos (nt za)]; done))), e⟩
 skip
 refine W_ifF g zk (zZ (zB (wR (zG (zc (c_points_Hex ((Lib.cut s ([46, 46] : List UInt8)).2.1) _ zo) ?_)))))
 rintro _ y ⟨rfl, d⟩
 refine zG (zr (I3 ((hexF ((Lib.cut s ([46, 46] : List UInt8)).2.1)).1)) (zr (I6 ((hexF ((Lib.cut s ([46, 46] : List UInt8)).2.1)).2)) (zI (zI (nW (wR (zG (zNe .i64 ((hexF ((Lib.cut s ([46, 46] : List UInt8)).2.1)).2) 0 ?_ ?_))))))))
 ·intro t
  have a := zA (zA (zA a c) b) d
  refine nQ (zT (wR (zr (Value.agg #[(I3 0), (I3 0)]) (zG (qC [(I3 0), (I3 0)] a ?_)))))
  intro r k
  have a := k.here
  refine zI (nQ (yB (zP (qI [.cell 2 29, .tmp 3] [(Value.agg #[(I3 0), (I3 0)]), (I6 ((hexF ((Lib.cut s ([46, 46] : List UInt8)).2.1)).2))] rfl rfl ⟨⟨⟨n, 0, none⟩, zk, wV [(I3 0), (I3 0)] zk zk (wE a)⟩, zk, trivial⟩ ?_))))
  have e := (((e.tr c).tr b).tr d).trans (k.below f)
  exact ⟨qP (by (rw [qV, if_neg zo, if_neg (nf za), if_pos zo]; done)) (e6 (by (rw [qV, if_neg zo, if_neg (nf za), if_pos zo]; done))), e⟩
 intro aa
 refine nQ (zF (zZ (zB (yA (wR (zG (zG (zGt .i32 ((hexF ((Lib.cut s ([46, 46] : List UInt8)).1)).1) ((hexF ((Lib.cut s ([46, 46] : List UInt8)).2.1)).1) ?_ ?_))))))))
 ·intro ad
  have a := zA (zA (zA a c) b) d
  refine nQ (zT (wR (zr (Value.agg #[(I3 0), (I3 0)]) (qC [(I3 0), (I3 0)] a ?_))))
  intro q l
  have a := l.here
  refine zI (nQ (yB (zP (qI [.cell 2 29, .tmp 3] [(Value.agg #[(I3 0), (I3 0)]), (I6 41)] rfl rfl ⟨⟨⟨n, 0, none⟩, zk, wV [(I3 0), (I3 0)] zk zk (wE a)⟩, zk, trivial⟩ ?_))))
  have e := (((e.tr c).tr b).tr d).trans (l.below f)
  exact ⟨qP (by (rw [qV, if_neg zo, if_neg (nf za), if_neg zo, if_pos zo]; done)) (e6 (by (rw [qV, if_neg zo, if_neg (nf za), if_neg zo, if_pos zo]; done))), e⟩
 intro p
 have a := zA (zA (zA a c) b) d
 refine nQ (zF (zZ (zB (wR (zG (zG (zr (Value.agg #[(I3 ((hexF ((Lib.cut s ([46, 46] : List UInt8)).1)).1)), (I3 ((hexF ((Lib.cut s ([46, 46] : List UInt8)).2.1)).1))]) (qC [(I3 ((hexF ((Lib.cut s ([46, 46] : List UInt8)).1)).1)), (I3 ((hexF ((Lib.cut s ([46, 46] : List UInt8)).2.1)).1))] a ?_))))))))
 intro z i
 have a := i.here
 refine zI (nQ (yB (qI [.cell 2 29, .tmp 3] [(Value.agg #[(I3 ((hexF ((Lib.cut s ([46, 46] : List UInt8)).1)).1)), (I3 ((hexF ((Lib.cut s ([46, 46] : List UInt8)).2.1)).1))]), (I6 0)] rfl rfl ⟨⟨⟨n, 0, none⟩, zk, wV [(I3 ((hexF ((Lib.cut s ([46, 46] : List UInt8)).1)).1)), (I3 ((hexF ((Lib.cut s ([46, 46] : List UInt8)).2.1)).1))] zk zk (wE a)⟩, zk, trivial⟩ ?_)))
 have e := (((e.tr c).tr b).tr d).trans (i.below f)
 exact ⟨qP (by (rw [qV, if_neg zo, if_neg (nf za), if_neg zo, if_neg zo]; done)) (e6 (by (rw [qV, if_neg zo, if_neg (nf za), if_neg zo, if_neg zo]; done))), e⟩
end Go.Proofs.Ythjgnnfonofgkaa
end

/- === FKad === -/
section
/- FKad: the cells of a row's block as they lie: slices of the block, copies into it. My own text. -/
namespace Go.FK
open Go Go.RowKit
def AtE {α : Type} (enc : α → List Value) (k : Nat) (cur : List Value) (a : Nat) (ys : List α) : Prop := (cur.drop (a * k)).take (ys.length * k) = ys.flatMap enc
def putAt (k : Nat) (cur : List Value) (a : Nat) (cs : List Value) : List Value := cur.take (a * k) ++ cs ++ cur.drop (a * k + cs.length)
structure Raw (w : World) (B E k g cap : Nat) (cur : List Value) : Prop where
  base : B ≤ g
  here : w.heap[g]? = some (.cells cur.toArray E (0, 0))
  capm : cap ≤ maxLen
  size : cur.length = cap * k
theorem putAt_len {k a : Nat} {cur cs : List Value} (h : a * k + cs.length ≤ cur.length) : (putAt k cur a cs).length = cur.length := by
 unfold putAt; rw [List.length_append, List.length_append, List.length_take, List.length_drop]; omega
section
variable {α : Type} {enc : α → List Value} {k : Nat} {cur cs : List Value}
theorem wI (hk : ∀ x, (enc x).length = k) (ys : List α) : (ys.flatMap enc).length = ys.length * k := flat_len enc k hk ys
theorem at_put {a : Nat} {ys : List α} (hk : ∀ x, (enc x).length = k) (h : a * k + ys.length * k ≤ cur.length) : AtE enc k (putAt k cur a (ys.flatMap enc)) a ys := by
 have b := wI hk ys
 have c : (cur.take (a * k)).length = a * k := by rw [List.length_take]; omega
 unfold AtE putAt
 rw [List.append_assoc, List.drop_append_of_le_length (by omega), List.drop_of_length_le (l := cur.take (a * k)) (by omega), List.nil_append, List.take_append_of_le_length (by omega), ← b, List.take_length]
theorem at_lo {a b : Nat} {zs : List α} (h : AtE enc k cur b zs) (hb : b + zs.length ≤ a) (hl : a * k ≤ cur.length) : AtE enc k (putAt k cur a cs) b zs := by
 have c : b * k + zs.length * k ≤ a * k := by rw [← Nat.add_mul]; exact Nat.mul_le_mul_right _ hb
 have d : (cur.take (a * k)).length = a * k := by rw [List.length_take]; omega
 unfold AtE at h ⊢
 unfold putAt
 rw [List.append_assoc, List.drop_append_of_le_length (by omega), List.take_append_of_le_length (by rw [List.length_drop]; omega), List.drop_take, List.take_take, Nat.min_eq_left (by omega)]
 exact h
theorem at_hi {a b : Nat} {zs ys : List α} (hk : ∀ x, (enc x).length = k) (h : AtE enc k cur b zs) (hb : a + ys.length ≤ b) (hl : a * k + ys.length * k ≤ cur.length) : AtE enc k (putAt k cur a (ys.flatMap enc)) b zs := by
 have e : a * k + ys.length * k ≤ b * k := by rw [← Nat.add_mul]; exact Nat.mul_le_mul_right _ hb
 have d := wI hk ys
 have c : (cur.take (a * k)).length = a * k := by rw [List.length_take]; omega
 unfold AtE at h ⊢
 unfold putAt
 rw [List.drop_append, List.drop_of_length_le (by rw [List.length_append]; omega), List.nil_append, List.drop_drop, List.length_append, c, d]
 rw [show a * k + ys.length * k + (b * k - (a * k + ys.length * k)) = b * k by omega]
 exact h
theorem at_split {a : Nat} {xs ys : List α} (hk : ∀ x, (enc x).length = k) (h : AtE enc k cur a (xs ++ ys)) : AtE enc k cur a xs ∧ AtE enc k cur (a + xs.length) ys := by
 have b := wI hk xs
 have c := wI hk ys
 unfold AtE at h ⊢
 rw [List.length_append, Nat.add_mul, List.flatMap_append] at h
 constructor
 ·have := congrArg (List.take (xs.length * k)) h
  rw [List.take_take, Nat.min_eq_left (by omega), List.take_append_of_le_length (by omega), ← b, List.take_length] at this
  rw [← b]; exact this
 ·have := congrArg (List.drop (xs.length * k)) h
  rw [List.drop_take, List.drop_drop, List.drop_append_of_le_length (by omega), List.drop_of_length_le (l := xs.flatMap enc) (by omega), List.nil_append, Nat.add_sub_cancel_left] at this
  rw [Nat.add_mul]; exact this
theorem at_join {a : Nat} {xs ys : List α} (hk : ∀ x, (enc x).length = k) (h1 : AtE enc k cur a xs) (h2 : AtE enc k cur (a + xs.length) ys) : AtE enc k cur a (xs ++ ys) := by
 have b := wI hk xs
 unfold AtE at h1 h2 ⊢
 rw [List.length_append, Nat.add_mul, List.flatMap_append, ← h1, ← h2, Nat.add_mul, ← List.drop_drop, List.take_add]
theorem at_mid {a : Nat} {xs : List α} (hk : ∀ x, (enc x).length = k) (h : AtE enc k cur a xs) (i : Nat) (hi : i ≤ xs.length) : AtE enc k cur a (xs.take i) ∧ AtE enc k cur (a + i) (xs.drop i) := by
 have c : AtE enc k cur a (xs.take i ++ xs.drop i) := by rw [List.take_append_drop]; exact h
 have b := at_split hk c
 rwa [List.length_take, Nat.min_eq_left hi] at b
theorem at_cells {a : Nat} {ys : List α} {w : World} {B E g cap : Nat} (hk : ∀ x, (enc x).length = k) (hr : Raw w B E k g cap cur) (h : AtE enc k cur a ys) : ∀ j u, (ys.flatMap enc)[j]? = some u → w.cell? ((⟨g, a * k, none⟩ : Addr).add j) = some u := by
 intro j u hu
 have hj : j < ys.length * k := by
  have := (List.getElem?_eq_some_iff.1 hu).1
  rwa [wI hk] at this
 rw [xZ]
 refine zK hr.here ?_
 unfold AtE at h
 rw [← h, List.getElem?_take, if_pos hj, List.getElem?_drop] at hu
 simpa using hu
end
theorem Row.raw {α : Type} {enc : α → List Value} {w : World} {B E k : Nat} {v : Value} {xs : List α} (h : Row w B E k enc v xs) (hk : ∀ x, (enc x).length = k) (hn : 0 < xs.length) :
  ∃ g cap cur, v = .slice (some ⟨g, 0, none⟩) xs.length cap ∧ xs.length ≤ cap ∧ Raw w B E k g cap cur ∧ AtE enc k cur 0 xs := by
 rcases h.2 with ⟨_, a⟩ | ⟨g, cap, cur, hv, hg, hh, hnc, hcm, hcs, ht⟩
 ·omega
 ·refine ⟨g, cap, cur.toList, hv, hnc, ⟨hg, by simpa using hh, hcm, by simpa using hcs⟩, ?_⟩
  unfold AtE
  rw [Nat.zero_mul, List.drop_zero]; exact ht
theorem Raw.row {α : Type} {enc : α → List Value} {w : World} {B E k g cap : Nat} {cur : List Value} {zs : List α} (h : Raw w B E k g cap cur) (hk : ∀ x, (enc x).length = k) {N : Nat} (hN : N = zs.length) (hl : zs.length ≤ cap) (hz : AtE enc k cur 0 zs) :
  Row w B E k enc (.slice (some ⟨g, 0, none⟩) N cap) zs := by
 subst hN
 refine ⟨wI hk zs, .inr ⟨g, cap, cur.toArray, rfl, h.base, h.here, hl, h.capm, by simpa using h.size, ?_⟩⟩
 unfold AtE at hz
 rw [Nat.zero_mul, List.drop_zero] at hz; exact hz
theorem Raw.grown {w w' : World} {B E k g cap : Nat} {cur : List Value} {row : Option Nat} (h : Raw w B E k g cap cur) (hg : w.grownBy w' row) (hne : row ≠ some g) : Raw w' B E k g cap cur :=
 ⟨h.base, (hg.block g (yD h.here) (fun e => hne e.symm)).trans h.here, h.capm, h.size⟩
theorem wP {α : Type} {enc : α → List Value} {k : Nat} {cur : List Value} {a b : Nat} {ys : List α} (h : AtE enc k cur a ys) (e : a = b) : AtE enc k cur b ys := e ▸ h
theorem at_rd {α : Type} {enc : α → List Value} {w : World} {B E k g cap a c : Nat} {cur : List Value} {ys : List α} (hr : Raw w B E k g cap cur) (hk : ∀ x, (enc x).length = k) (h : AtE enc k cur a ys) {N : Nat} (hN : N = ys.length) : Rd w enc (.slice (some ⟨g, a * k, none⟩) N c) ys := by
 subst hN
 refine ⟨_, c, rfl, .inr ⟨g, a * k, rfl, fun j u hu => ?_⟩⟩
 have := at_cells hk hr h j u hu
 rwa [xZ] at this
theorem Row.mono0 {α : Type} {w : World} {B E k : Nat} {enc : α → List Value} {v : Value} {xs : List α} (h : Row w B E k enc v xs) : Row w 0 E k enc v xs := by
 refine ⟨h.1, ?_⟩
 rcases h.2 with a | ⟨g, cap, cur, hv, hg, r⟩
 ·exact .inl a
 ·exact .inr ⟨g, cap, cur, hv, Nat.zero_le _, r⟩
theorem samecap_val {α : Type} {w : World} {B E k g N cap : Nat} {enc : α → List Value} {v p : Value} {ys : List α} (h : SameCap v p) (hv : v = .slice (some ⟨g, 0, none⟩) N cap) (hp : Row w B E k enc p ys) : (∃ a, p = .slice a ys.length cap) ∧ ys.length ≤ cap := by
 subst hv
 rcases h with ⟨c, _⟩ | ⟨j, e, i, f, c, rfl⟩
 ·cases c
 ·cases c
  rcases hp.2 with ⟨b, _⟩ | ⟨l, d, cur, b, _, _, hnc, _⟩
  ·cases b
  ·cases b
   exact ⟨⟨_, rfl⟩, hnc⟩
theorem yX {v : Value} {g N cap : Nat} (hv : v = .slice (some ⟨g, 0, none⟩) N cap) : Value.ownBlock v = some g := by rw [hv]; rfl
theorem Raw.shape {w : World} {B E k g cap : Nat} {cur : List Value} (h : Raw w B E k g cap cur) : w.shape? g = some (E, cur.length) := by unfold World.shape?; rw [h.here]; simp
theorem Raw.frozen {w : World} {B E k g cap : Nat} {cur : List Value} (h : Raw w B E k g cap cur) (j : Nat) : w.frozen? ⟨g, j, none⟩ = false := by unfold World.frozen?; rw [h.here]; simp
theorem grow_ne {w : World} {B E k g cap : Nat} {cur : List Value} {v : Value} (h : Raw w B E k g cap cur) (hn : v.ownBlock = some w.heap.size) : v.ownBlock ≠ some g := by
 rw [hn]; intro e
 have := yD h.here
 have a := Option.some.inj e
 omega
theorem Raw.le {w : World} {B E k g cap a : Nat} {cur : List Value} (h : Raw w B E k g cap cur) (ha : a ≤ cap) : a * k ≤ cur.length := by rw [h.size]; exact Nat.mul_le_mul_right _ ha
theorem Raw.le2 {w : World} {B E k g cap a c : Nat} {cur : List Value} (h : Raw w B E k g cap cur) (ha : a + c ≤ cap) : a * k + c * k ≤ cur.length := by rw [h.size, ← Nat.add_mul]; exact Nat.mul_le_mul_right _ ha
theorem zer_new {α : Type} {w : World} {B E k N : Nat} {enc : α → List Value} {v : Value} {xs : List α} (h : Row w B E k enc v xs) (how : v.ownBlock = (Value.slice none 0 0).ownBlock ∨ v.ownBlock = some N) (hn : 0 < xs.length) : v.ownBlock = some N := by
 rcases how with a | a
 ·rcases h.2 with ⟨rfl, b⟩ | ⟨g, cap, cur, rfl, _⟩
  ·omega
  ·cases a
 ·exact a
theorem rne_of {v u : Value} {g b n m c e : Nat} (hv : v = .slice (some ⟨g, 0, none⟩) n c) (hu : u = .slice (some ⟨b, 0, none⟩) m e) (h : v.ownBlock = none ∨ v.ownBlock ≠ u.ownBlock) : g ≠ b := by
 subst hv; subst hu
 rintro rfl
 rcases h with h | h
 ·cases h
 ·exact h rfl
theorem grown_w {w w' : World} {g : Nat} {o : Obj} (h : Wrote w w' g o) : w.grownBy w' (some g) := ⟨h.os, h.tape, h.output, Nat.le_of_eq h.size.symm, fun k _ hk => h.other k (fun e => hk (by rw [e]))⟩
section ops
variable {r : Option Nat} {P : Program} {n : Nat} {Q : Post} {s : Fm} {w : World} {ops : Array Oper} {rest : List Oper}
variable {d : Option Tmp} {ty : TypeId} {pos : String} {af : Array Edge}
theorem L_cap {ats : Array TypeId} {X : Operand} (t E c : Nat) (v : Value) (hat : ats[0]? = some t) (hu : P.underlying t = some (.slice E)) (hv : ∃ a m, v = .slice a m c) (hx : s.ev n X = v)
  (h : L r P n ops Q rest (s.put d (.int .i64 (c : Nat))) w) : L r P n ops Q (⟨d, .call ⟨.builtin .cap, #[X], ats⟩, ty, pos, af, none⟩ :: rest) s w := by
 obtain ⟨a, m, rfl⟩ := hv
 refine xM _ w (by simp) ?_ h
 simp [execOp, resolve, invoke, builtin, Builtin.cap_, hat, hx, run_underlying hu, goInt, Sem.run_pure, Sem.run_bind]
theorem L_slTot {X : Operand} {hi : Operand} {T E k bytes : Nat} (he : Elem P T E k bytes) (v : Value) (g N c tot : Nat) (hv : v = .slice (some ⟨g, 0, none⟩) N c) (hX : s.ev n X = v) (hhi : ∃ kk, s.ev n hi = .int kk tot) (h2 : tot ≤ c)
  (h : L r P n ops Q rest (s.put d (.slice (some ⟨g, 0, none⟩) tot c)) w) : L r P n ops Q (⟨d, .slice T X none (some hi) none, ty, pos, af, none⟩ :: rest) s w := by
 subst hv
 obtain ⟨kk, hhi⟩ := hhi
 have hb := sliceB (P := P) (w := w) (len := N) (cap := c) (lo := none) (hi := some (.int kk (tot : Nat))) 0 tot rfl ⟨kk, rfl⟩ (Nat.zero_le _) h2 true
 refine xM _ w (by simp) ?_ h
 have e : (if c = 0 then some (⟨g, 0, none⟩ : Addr) else some ((⟨g, 0, none⟩ : Addr).add (0 * k))) = some ⟨g, 0, none⟩ := by
  split
  ·rfl
  ·rw [xZ, Nat.zero_mul]
 simp only [execOp, hX, hhi, Instr.sliceAt, Instr.slice, Sem.run_bind, Sem.run_pure, Result.andThen_ok, run_underlying he.ht, hb, xT he, Option.map_none, Option.map_some, e, Nat.sub_zero]
theorem L_slRaw {X : Operand} {lo hi : Option Operand} {T E k bytes : Nat} (he : Elem P T E k bytes) (v : Value) (g o N c l hh : Nat) (hv : v = .slice (some ⟨g, o * k, none⟩) N c) (hX : s.ev n X = v)
  (hlo : match lo with | none => l = 0 | some x => ∃ kk, s.ev n x = .int kk l) (hhi : match hi with | none => hh = N | some x => ∃ kk, s.ev n x = .int kk hh) (h1 : l ≤ hh) (h2 : hh ≤ c) (h3 : l < c)
  (h : L r P n ops Q rest (s.put d (.slice (some ⟨g, (o + l) * k, none⟩) (hh - l) (c - l))) w) : L r P n ops Q (⟨d, .slice T X lo hi none, ty, pos, af, none⟩ :: rest) s w := by
 subst hv
 have hb := sliceB (P := P) (w := w) (len := N) (cap := c) (lo := lo.map (s.ev n)) (hi := hi.map (s.ev n)) l hh (by cases lo <;> exact hlo) (by cases hi <;> exact hhi) h1 h2 true
 refine xM _ w (by simp) ?_ h
 have e : (if c = l then some (⟨g, o * k, none⟩ : Addr) else some ((⟨g, o * k, none⟩ : Addr).add (l * k))) = some ⟨g, (o + l) * k, none⟩ := by
  rw [if_neg (by omega), xZ, Nat.add_mul]
 simp only [execOp, hX, Instr.sliceAt, Instr.slice, Sem.run_bind, Sem.run_pure, Result.andThen_ok, run_underlying he.ht, hb, xT he, Option.map_none, Option.map_some, e]
theorem run_copyCells (T elem ty : TypeId) {k : Nat} (hu : P.underlying T = some (.slice elem)) (hz : ∀ w, (sizeOf elem).run P w = .ok k w) (g a p c1 : Nat) (A : Addr) (q c2 : Nat) (cur cs : List Value) (E : TypeId)
  (hg : w.heap[g]? = some (.cells cur.toArray E (0, 0))) (c : Nat) (hc : c = Nat.min q p) (hn : cs.length = c * k) (hsrc : ∀ j v, cs[j]? = some v → w.cell? (A.add j) = some v) (hfit : a * k + cs.length ≤ cur.length) (h1 : ∀ v ∈ cs, v.oneCell' = true) :
  (Builtin.copy_ #[T, T] ty #[.slice (some ⟨g, a * k, none⟩) p c1, .slice (some A) q c2]).run P w = .ok (goInt c) (w.setRow g (putAt k cur a cs).toArray) := by
 have hl := run_loadCells_list (P := P) w A cs hsrc
 have hst := run_storeCells_at P g (a * k) E cs 0 cur.toArray w hg (by simpa using hfit) h1
 rw [hn] at hl
 simp only [Nat.add_zero] at hst
 simp [Builtin.copy_, run_underlying hu, Builtin.lenOf, Builtin.firstCells, hz, ← hc, hl, hst, putAt]
theorem wrote_set {g : Nat} {cur : Array Value} {E : TypeId} {x : Array Value} (hg : w.heap[g]? = some (.cells cur E (0, 0))) : Wrote w (w.setRow g x) g (.cells x E (0, 0)) :=
 ⟨rfl, rfl, rfl, by simp [World.setRow], setRow_heap w g cur _ E (0, 0) hg, fun k' hk' => by simp only [World.setRow, Array.getElem?_modify]; rw [if_neg (fun e => hk' e.symm)]⟩
theorem Raw.put {B E k g cap a : Nat} {cur cs : List Value} (h : Raw w B E k g cap cur) (hf : a * k + cs.length ≤ cur.length) : Raw (w.setRow g (putAt k cur a cs).toArray) B E k g cap (putAt k cur a cs) :=
 ⟨h.base, setRow_heap w g _ _ E (0, 0) h.here, h.capm, by rw [putAt_len hf]; exact h.size⟩
theorem L_copyRd {α : Type} {enc : α → List Value} {X Y : Operand} {T E k bytes B g cap a p c1 : Nat} {cur : List Value} (he : Elem P T E k bytes) (vy : Value) (ys : List α) (hraw : Raw w B E k g cap cur) (hrd : Rd w enc vy ys) (hk : ∀ x, (enc x).length = k) (h1 : ∀ x, (enc x).all (·.oneCell') = true)
  (hX : s.ev n X = .slice (some ⟨g, a * k, none⟩) p c1) (hY : s.ev n Y = vy) (hq : ys.length ≤ p) (hfit : a + ys.length ≤ cap)
  (h : ∀ w', Raw w' B E k g cap (putAt k cur a (ys.flatMap enc)) → w.grownBy w' (some g) → L r P n ops Q rest (s.put d (.int .i64 (ys.length : Nat))) w') :
  L r P n ops Q (⟨d, .call ⟨.builtin .copy, #[X, Y], #[T, T]⟩, ty, pos, af, none⟩ :: rest) s w := by
 have hfl := wI hk ys
 have b : a * k + (ys.flatMap enc).length ≤ cur.length := by rw [hfl, hraw.size, ← Nat.add_mul]; exact Nat.mul_le_mul_right _ hfit
 obtain ⟨A, f, rfl, c⟩ := hrd
 have fin : ∀ w', (Builtin.copy_ #[T, T] ty #[.slice (some ⟨g, a * k, none⟩) p c1, .slice A ys.length f]).run P w = .ok (goInt ys.length) w' → Raw w' B E k g cap (putAt k cur a (ys.flatMap enc)) → w.grownBy w' (some g) →
   L r P n ops Q (⟨d, .call ⟨.builtin .copy, #[X, Y], #[T, T]⟩, ty, pos, af, none⟩ :: rest) s w := fun w' hrun hr hg => by
  refine xM (goInt ys.length) w' (by simp) ?_ (h w' hr hg)
  simp only [execOp, resolve, invoke, builtin, Sem.run_bind, Sem.run_pure, Result.andThen_ok, List.map_toArray, List.map_cons, List.map_nil, hX, hY, hrun]
 rcases c with i | ⟨gy, off, rfl, hc⟩
 ·obtain rfl : ys = [] := List.eq_nil_of_length_eq_zero i
  refine fin w ?_ ?_ ⟨rfl, rfl, rfl, Nat.le_refl _, fun _ _ _ => rfl⟩
  ·cases A with
   | none => simp [Builtin.copy_, run_underlying he.ht, Builtin.lenOf, Builtin.firstCells, xT he, storeCells]
   | some A => simp [Builtin.copy_, run_underlying he.ht, Builtin.lenOf, Builtin.firstCells, xT he, loadCells, loadCellsFrom, storeCells]
  ·have e : putAt k cur a (([] : List α).flatMap enc) = cur := by simp [putAt]
   rw [e]; exact hraw
 ·refine fin _ (run_copyCells T E ty he.ht (fun _ => xT he) g a p c1 ⟨gy, off, none⟩ ys.length f cur _ E hraw.here ys.length (by show _ = min _ _; omega) hfl (fun j u hu => by rw [xZ]; exact hc j u hu) b (enc_flat_one enc h1 ys)) (hraw.put b) (grown_w (wrote_set hraw.here))
theorem L_copySelf {α : Type} {enc : α → List Value} {X Y : Operand} {T E k bytes B g cap a p c1 b q c2 : Nat} {cur : List Value} (he : Elem P T E k bytes) (ys : List α) (hraw : Raw w B E k g cap cur) (hat : AtE enc k cur b ys) (hk : ∀ x, (enc x).length = k) (h1 : ∀ x, (enc x).all (·.oneCell') = true)
  (hX : s.ev n X = .slice (some ⟨g, a * k, none⟩) p c1) (hY : s.ev n Y = .slice (some ⟨g, b * k, none⟩) q c2) (hc : ys.length = min q p) (hfit : a + ys.length ≤ cap)
  (h : ∀ w', Raw w' B E k g cap (putAt k cur a (ys.flatMap enc)) → w.grownBy w' (some g) → L r P n ops Q rest (s.put d (.int .i64 (ys.length : Nat))) w') :
  L r P n ops Q (⟨d, .call ⟨.builtin .copy, #[X, Y], #[T, T]⟩, ty, pos, af, none⟩ :: rest) s w := by
 have hfl := wI hk ys
 have c : a * k + (ys.flatMap enc).length ≤ cur.length := by rw [hfl, hraw.size, ← Nat.add_mul]; exact Nat.mul_le_mul_right _ hfit
 have hrun := run_copyCells (w := w) T E ty he.ht (fun _ => xT he) g a p c1 ⟨g, b * k, none⟩ q c2 cur _ E hraw.here ys.length hc hfl (at_cells hk hraw hat) c (enc_flat_one enc h1 ys)
 refine xM (goInt ys.length) _ (by simp) ?_ (h _ (hraw.put c) (grown_w (wrote_set hraw.here)))
 simp only [execOp, resolve, invoke, builtin, Sem.run_bind, Sem.run_pure, Result.andThen_ok, List.map_toArray, List.map_cons, List.map_nil, hX, hY, hrun]
theorem zero_flat {α : Type} {enc : α → List Value} {k : Nat} (hk0 : 0 < k) (z0 : α) (zs : Array Value) (hz : zs.toList = enc z0) (hk : (enc z0).length = k) : ∀ c : Nat, (Builtin.zeroCells zs c).toList = (List.replicate c z0).flatMap enc := by
 have hsz : zs.size = k := by rw [← Array.length_toList, hz, hk]
 intro c
 induction c with
 | zero => simp [Builtin.zeroCells]
 | succ c ih =>
  rw [List.replicate_succ', List.flatMap_append, ← ih]
  unfold Builtin.zeroCells
  simp only [Array.toList_map, Array.toList_range, hsz]
  rw [show (c + 1) * k = c * k + k by rw [Nat.succ_mul], List.range_add, List.map_append, List.map_map]
  congr 1
  apply List.ext_getElem?
  intro j
  simp only [List.getElem?_map, List.flatMap_cons, List.flatMap_nil, List.append_nil]
  by_cases hj : j < k
  ·rw [List.getElem?_range hj]
   simp only [Option.map_some, Function.comp]
   rw [Nat.mul_comm c k, Nat.mul_add_mod, Nat.mod_eq_of_lt hj, getElem!_pos zs _ (by omega), ← hz]
   simp [hsz, hj]
  ·rw [List.getElem?_eq_none (by simp; omega), List.getElem?_eq_none (by omega)]; rfl
theorem L_appZeros {α : Type} {enc : α → List Value} {A X : Operand} {T tn E k bytes : Nat} {kn kq : IntKind} (he : Elem P T E k bytes) (htn : P.underlying tn = some (.int kn)) (z0 : α) (hz0 : ((P.info? E).bind (·.zero)).map (·.cells.toList) = some (enc z0)) (B : Nat) (v : Value) (xs : List α) (c cap : Nat)
  (hB : B ≤ w.heap.size) (hrow : Row w B E k enc v xs) (hk : ∀ x, (enc x).length = k) (hv : ∃ a, v = .slice a xs.length cap) (hc : 0 < c) (hg : cap < xs.length + c) (hm : (xs.length + c) * bytes ≤ 140737488355328) (hcap : xs.length ≤ cap) (hby : Nat.blt 0 bytes = true)
  (hA : s.ev n A = v) (hX : s.ev n X = .int kq c)
  (h : ∀ v' w', Row w' B E k enc v' (xs ++ List.replicate c z0) → w.grownBy w' (Value.slice none 0 0).ownBlock → (v'.ownBlock = (Value.slice none 0 0).ownBlock ∨ v'.ownBlock = some w.heap.size) → L r P n ops Q rest (s.put d v') w') :
  L r P n ops Q (⟨d, .call ⟨.builtin .append, #[A, X], #[T, tn]⟩, ty, pos, af, none⟩ :: rest) s w := by
 obtain ⟨i, hq, hks, hbys, z, hzz, hzs, hzc⟩ : ∃ i, P.info? E = some i ∧ i.size = k ∧ i.bytes = bytes ∧ ∃ z, i.zero = some z ∧ z.cells.size = k ∧ z.cells.toList = enc z0 := by
  have h := he.hi
  cases hq : P.info? E with
  | none => rw [hq] at h; cases h
  | some i =>
   rw [hq] at h hz0
   simp only [Option.map_some, Option.some.injEq, Prod.mk.injEq] at h
   obtain ⟨b, l, f⟩ := h
   cases hz : i.zero with
   | none => rw [hz] at b; cases b
   | some z =>
    rw [hz] at b
    simp only [Option.bind_some, hz, Option.map_some, Option.some.injEq] at hz0
    exact ⟨i, rfl, l, f, z, hz, by simpa using b, hz0⟩
 have hkp : 0 < k := by have := he.hk; simpa using this
 have hbp : 0 < bytes := by simpa using hby
 obtain ⟨a, rfl⟩ := hv
 have hN : (xs.length + c) * 1 ≤ (xs.length + c) * bytes := Nat.mul_le_mul_left _ hbp
 have hcells : (Builtin.firstCells k xs.length (.slice a xs.length cap)).run P w.drew = .ok (xs.flatMap enc).toArray w.drew := by
  rcases hrow.2 with ⟨b, f⟩ | ⟨g, cap', cur, b, hg', hh, hnc, hcm, hcs, ht⟩
  ·injection b with e1 e2 e3
   subst e1
   obtain rfl : xs = [] := List.eq_nil_of_length_eq_zero f
   simp [Builtin.firstCells, Sem.run_pure]
  ·injection b with e1 e2 e3
   subst e1; subst e3
   have hsrc : ∀ j u, (xs.flatMap enc)[j]? = some u → w.drew.cell? ((⟨g, 0, none⟩ : Addr).add j) = some u := fun j u hu => hrow.cells (g := g) rfl j u hu
   have := run_loadCells_list (P := P) w.drew ⟨g, 0, none⟩ (xs.flatMap enc) hsrc
   rw [wI hk] at this
   exact this
 have hgc := grownCap_ge w (xs.length + c) cap E
 have hgm := grownCap_le_maxLen w (xs.length + c) cap E (by unfold maxLen; omega)
 have hrun := Lib.run_append_grow_zeros (P := P) w T tn ty E i z kq kn he.ht htn hq hzz a xs.length cap (xs.flatMap enc) (by rw [hks]; exact hcells) c hc (by omega) hg (by omega)
  (by rw [hbys]; have : c * bytes ≤ (xs.length + c) * bytes := Nat.mul_le_mul_right _ (by omega); omega) (growslice_fits (by omega) (by rw [hbys]; exact hm))
 refine xM _ _ (by simp) ?_ (h (.slice (some ⟨w.heap.size, 0, none⟩) (xs.length + c) (grownCap w (xs.length + c) cap E)) (w.drew.alloc (.cells ((xs.flatMap enc).toArray ++ Builtin.zeroCells z.cells c ++ Builtin.zeroCells z.cells (grownCap w (xs.length + c) cap E - (xs.length + c))) E)) ?_ ⟨rfl, rfl, rfl, by simp, fun k hk _ => Below.heap_alloc w.drew _ k hk⟩ (.inr rfl))
 ·simp only [execOp, resolve, invoke, builtin, Sem.run_bind, Sem.run_pure, Result.andThen_ok, List.map_toArray, List.map_cons, List.map_nil, hA, hX, hrun]
 ·have hfl := wI hk xs
  refine ⟨by rw [wI hk], .inr ⟨w.heap.size, _, _, by simp, hB, heap_alloc_new w.drew _, by simpa using hgc, hgm, ?_, ?_⟩⟩
  ·simp only [Array.size_append, List.size_toArray, size_zeroCells, hzs, hfl, ← Nat.add_mul]
   congr 1
   omega
  ·have e : (Builtin.zeroCells z.cells c).toList = (List.replicate c z0).flatMap enc := zero_flat hkp z0 z.cells hzc (hk z0) c
   simp only [Array.toList_append, e]
   rw [← List.flatMap_append, ← wI hk (xs ++ List.replicate c z0), List.take_left]
theorem L_clearRaw {α : Type} {enc : α → List Value} {X : Operand} {T E k bytes B g cap m lo : Nat} {cur : List Value} (he : Elem P T E k bytes) (v tail : Value) (hv : v = .slice (some ⟨g, 0, none⟩) m cap) (hT : TailOf k m lo v tail) (hraw : Raw w B E k g cap cur) (hlo : lo ≤ m) (hmc : m ≤ cap)
  (hz1 : ∀ z, (P.info? E).bind (·.zero) = some z → ∀ u ∈ z.cells.toList, u.oneCell' = true) (hX : s.ev n X = tail)
  (h : ∀ w' cur', Raw w' B E k g cap cur' → (∀ (a : Nat) (zs : List α), a + zs.length ≤ lo → AtE enc k cur a zs → AtE enc k cur' a zs) → w.grownBy w' (some g) → L r P n ops Q rest (s.put d (.tuple #[])) w') :
  L r P n ops Q (⟨d, .call ⟨.builtin .clear, #[X], #[T]⟩, ty, pos, af, none⟩ :: rest) s w := by
 obtain ⟨i, hq, hks, z, hzz, hzs⟩ : ∃ i, P.info? E = some i ∧ i.size = k ∧ ∃ z, i.zero = some z ∧ z.cells.size = k := by
  have h := he.hi
  cases hq : P.info? E with
  | none => rw [hq] at h; cases h
  | some i =>
   rw [hq] at h
   simp only [Option.map_some, Option.some.injEq, Prod.mk.injEq] at h
   obtain ⟨b, e, f⟩ := h
   cases hz : i.zero with
   | none => rw [hz] at b; cases b
   | some z => rw [hz] at b; exact ⟨i, rfl, e, z, hz, by simpa using b⟩
 have hkp : 0 < k := by have := he.hk; simpa using this
 have fin : ∀ w', (Builtin.clear_ #[T] ty #[tail]).run P w = .ok (.tuple #[]) w' → ∀ cur', Raw w' B E k g cap cur' → (∀ (a : Nat) (zs : List α), a + zs.length ≤ lo → AtE enc k cur a zs → AtE enc k cur' a zs) → w.grownBy w' (some g) →
   L r P n ops Q (⟨d, .call ⟨.builtin .clear, #[X], #[T]⟩, ty, pos, af, none⟩ :: rest) s w := fun w' hrun cur' b e f => by
  refine xM (.tuple #[]) w' (by simp) ?_ (h w' cur' b e f)
  simp only [execOp, resolve, invoke, builtin, Sem.run_bind, Sem.run_pure, Result.andThen_ok, List.map_toArray, List.map_cons, List.map_nil, hX, hrun]
 subst hv
 rcases hT with ⟨_, e, _⟩ | ⟨g', cap', b, rfl⟩
 ·cases e
 ·cases b
  by_cases hml : m = lo
  ·refine fin w ?_ cur hraw (fun _ _ _ h => h) ⟨rfl, rfl, rfl, Nat.le_refl _, fun _ _ _ => rfl⟩
   rw [hml, Nat.sub_self]
   split <;> simp [Builtin.clear_, run_underlying he.ht]
  ·rw [if_neg (by omega)] at fin
   have hlen : (Builtin.zeroCells z.cells (m - lo)).toList.length = (m - lo) * k := by rw [Array.length_toList, size_zeroCells, hzs]
   have hf : lo * k + (Builtin.zeroCells z.cells (m - lo)).toList.length ≤ cur.length := by rw [hlen, hraw.size, ← Nat.add_mul]; exact Nat.mul_le_mul_right _ (by omega)
   have hone : ∀ u ∈ (Builtin.zeroCells z.cells (m - lo)).toList, u.oneCell' = true := by
    intro u hu
    have := hz1 z (by rw [hq]; exact hzz)
    simp only [Builtin.zeroCells, Array.toList_map, List.mem_map] at hu
    obtain ⟨j, _, rfl⟩ := hu
    have c : j % z.cells.size < z.cells.size := Nat.mod_lt _ (by omega)
    rw [getElem!_pos z.cells _ c]
    exact this _ (by simp)
   have hst := run_storeCells_at (P := P) g (lo * k) E (Builtin.zeroCells z.cells (m - lo)).toList 0 cur.toArray w hraw.here (by simpa using hf) hone
   simp only [Nat.add_zero] at hst
   have hrun : (Builtin.clear_ #[T] ty #[.slice (some ⟨g, lo * k, none⟩) (m - lo) (cap - lo)]).run P w = .ok (.tuple #[]) (w.setRow g (putAt k cur lo (Builtin.zeroCells z.cells (m - lo)).toList).toArray) := by
    obtain ⟨j, hj⟩ : ∃ j, m - lo = j + 1 := ⟨m - lo - 1, by omega⟩
    rw [hj] at hst ⊢
    simp [Builtin.clear_, run_underlying he.ht, zeroValue, typeInfo, hq, hzz, hst, putAt]
   exact fin _ hrun _ (hraw.put hf) (fun a zs hb hz => at_lo hz hb (by omega)) (grown_w (wrote_set hraw.here))
theorem Raw.below {w w' : World} {B E k g cap : Nat} {cur : List Value} (h : Raw w B E k g cap cur) (hB : Below w.heap.size w w') : Raw w' B E k g cap cur :=
 ⟨h.base, zA h.here hB, h.capm, h.size⟩
theorem Lq_slTot {K : Fm → Prop} {X : Operand} {hi : Operand} {T E k bytes : Nat} (he : Elem P T E k bytes) (v : Value) (g N c tot : Nat) (hv : v = .slice (some ⟨g, 0, none⟩) N c) (hX : s.ev n X = v) (hhi : ∃ kk, s.ev n hi = .int kk tot) (h2 : tot ≤ c)
  (h : Lq P n ops w K rest (s.put d (.slice (some ⟨g, 0, none⟩) tot c))) : Lq P n ops w K (⟨d, .slice T X none (some hi) none, ty, pos, af, none⟩ :: rest) s := by
 subst hv
 obtain ⟨kk, hhi⟩ := hhi
 refine qS _ (fun w' _ => ?_) h
 have hb := sliceB (P := P) (w := w') (len := N) (cap := c) (lo := none) (hi := some (.int kk (tot : Nat))) 0 tot rfl ⟨kk, rfl⟩ (Nat.zero_le _) h2 true
 have e : (if c = 0 then some (⟨g, 0, none⟩ : Addr) else some ((⟨g, 0, none⟩ : Addr).add (0 * k))) = some ⟨g, 0, none⟩ := by
  split
  ·rfl
  ·rw [xZ, Nat.zero_mul]
 simp only [execOp, hX, hhi, Instr.sliceAt, Instr.slice, Sem.run_bind, Sem.run_pure, Result.andThen_ok, run_underlying he.ht, hb, xT he, Option.map_none, Option.map_some, e, Nat.sub_zero]
theorem qM {K : Fm → Prop} {X : Operand} {lo hi : Option Operand} {T E k bytes : Nat} (he : Elem P T E k bytes) (v : Value) (g o N c l hh : Nat) (hv : v = .slice (some ⟨g, o * k, none⟩) N c) (hX : s.ev n X = v)
  (hlo : match lo with | none => l = 0 | some x => ∃ kk, s.ev n x = .int kk l) (hhi : match hi with | none => hh = N | some x => ∃ kk, s.ev n x = .int kk hh) (h1 : l ≤ hh) (h2 : hh ≤ c) (h3 : l < c)
  (h : Lq P n ops w K rest (s.put d (.slice (some ⟨g, (o + l) * k, none⟩) (hh - l) (c - l)))) : Lq P n ops w K (⟨d, .slice T X lo hi none, ty, pos, af, none⟩ :: rest) s := by
 subst hv
 refine qS _ (fun w' _ => ?_) h
 have hb := sliceB (P := P) (w := w') (len := N) (cap := c) (lo := lo.map (s.ev n)) (hi := hi.map (s.ev n)) l hh (by cases lo <;> exact hlo) (by cases hi <;> exact hhi) h1 h2 true
 have e : (if c = l then some (⟨g, o * k, none⟩ : Addr) else some ((⟨g, o * k, none⟩ : Addr).add (l * k))) = some ⟨g, (o + l) * k, none⟩ := by
  rw [if_neg (by omega), xZ, Nat.add_mul]
 simp only [execOp, hX, Instr.sliceAt, Instr.slice, Sem.run_bind, Sem.run_pure, Result.andThen_ok, run_underlying he.ht, hb, xT he, Option.map_none, Option.map_some, e]
theorem Lq_aggne {K : Fm → Prop} {t yt : TypeId} {X Y : Operand} (xs ys : List Value) (b : Bool) (hx : s.ev n X = .agg xs.toArray) (hy : s.ev n Y = .agg ys.toArray) (hm : P.eqGuardType P.depth t = false)
  (hq : ∀ w, (Op.equalIn 10000 t (.agg xs.toArray) (.agg ys.toArray)).run P w = .ok b w)
  (ht : b = false → Lq P n ops w K rest (s.put d (.bool true))) (hf : b = true → Lq P n ops w K rest (s.put d (.bool false))) : Lq P n ops w K (⟨d, .binOp .neq t X Y yt, ty, pos, af, none⟩ :: rest) s := by
 have hg : ∀ w, (eqGuard .neq t X Y (.agg xs.toArray) (.agg ys.toArray)).run P w = .ok () w := fun w => run_eqGuard_agg (P := P) w .neq t X Y xs.toArray ys.toArray hm
 have hb : ∀ w, (binOp .neq t (.agg xs.toArray) (.agg ys.toArray)).run P w = .ok (.bool (!b)) w := fun w => by
  have hb := run_neq_struct (P := P) w t xs.toArray ys.toArray
  rw [hq, Result.andThen_ok] at hb
  exact hb
 refine Lq_bin _ _ _ hx hy hg hb ?_
 cases b with
 | true => exact hf rfl
 | false => exact ht rfl
theorem L_bEq {t yt : TypeId} {X Y : Operand} (a b : Bool) (hX : s.ev n X = .bool a) (hY : s.ev n Y = .bool b) (hr : ∀ c e : Bool, (binOp .eql t (.bool c) (.bool e)).run P w = .ok (.bool (decide (c = e))) w)
  (ht : a = b → L r P n ops Q rest (s.put d (.bool true)) w) (hf : a ≠ b → L r P n ops Q rest (s.put d (.bool false)) w) : L r P n ops Q (⟨d, .binOp .eql t X Y yt, ty, pos, af, none⟩ :: rest) s w := by
 refine L_bin _ _ _ hX hY (by unfold eqGuard; cases a <;> rfl) (hr a b) ?_
 by_cases h : a = b
 ·rw [decide_eq_true h]; exact ht h
 ·rw [decide_eq_false h]; exact hf h
theorem Lq_bEq {K : Fm → Prop} {t yt : TypeId} {X Y : Operand} (a b : Bool) (hX : s.ev n X = .bool a) (hY : s.ev n Y = .bool b) (hr : ∀ (c e : Bool) (w : World), (binOp .eql t (.bool c) (.bool e)).run P w = .ok (.bool (decide (c = e))) w)
  (ht : a = b → Lq P n ops w K rest (s.put d (.bool true))) (hf : a ≠ b → Lq P n ops w K rest (s.put d (.bool false))) : Lq P n ops w K (⟨d, .binOp .eql t X Y yt, ty, pos, af, none⟩ :: rest) s := by
 refine Lq_bin _ _ _ hX hY (fun _ => by unfold eqGuard; cases a <;> rfl) (hr a b) ?_
 by_cases h : a = b
 ·rw [decide_eq_true h]; exact ht h
 ·rw [decide_eq_false h]; exact hf h
theorem L_overlaps {X Y : Operand} {ats : Array TypeId} {T R E k bytes f : Nat} {fn : Func} (he : Elem P T E k bytes) (hf : P.funcs[f]? = some fn) (hname : (fn.name == "runtime.NumGoroutine") = false) (hb : fn.body.isNone = true) (hn : Extern.findNext fn = none) (hfind : Extern.find fn = some (Extern.SlicesOverlaps.overlaps #[T, T] #[R]))
  {ga gb Ea Eb ka kb Ba Bb capa capb : Nat} {cura curb : List Value} (oa la ca ob lb cb : Nat) (ha : Raw w Ba Ea ka ga capa cura) (hbr : Raw w Bb Eb kb gb capb curb) (hne : ga ≠ gb) (hpos : 0 < curb.length)
  (hX : s.ev n X = .slice (some ⟨ga, oa, none⟩) la ca) (hY : s.ev n Y = .slice (some ⟨gb, ob, none⟩) lb cb)
  (h : L r P n ops Q rest (s.put d (.bool false)) w) : L r P n ops Q (⟨d, .call ⟨.value (.func f), #[X, Y], ats⟩, ty, pos, af, none⟩ :: rest) s w := by
 have hrun := Lib.run_overlaps_apart (P := P) w T R E he.ht k (fun _ => xT he) ⟨ga, oa, none⟩ ⟨gb, ob, none⟩ la ca lb cb hne Ea Eb cura.length curb.length ha.shape hbr.shape (by omega) (ha.frozen _) (ha.frozen _)
 refine xM (.bool false) w (by simp) ?_ h
 have a : s.ev n (.func f) = .func (.func f) #[] #[] := rfl
 simp [execOp, resolve, invoke, a, hX, hY, Deferred.ofValue, run_callFunc_extern hf hname hb hn hfind, hrun]
end ops
end Go.FK
end

/- === FKi === -/
section
/- FKi: regions that draw their order, whose operations have guards. My own text. -/
namespace Go.FK
open Go Go.RowKit
section
variable {P : Program} {n : Nat} {Q : Post} {s : Fm} {w : World} {ops : Array Oper} {fuel : Nat} {listed : Array Bool}
end
section
variable {P : Program} {n : Nat} {Q : Post} {s : Fm} {w : World} {ops : Array Oper} {fuel : Nat} {listed : Array Bool}
def noG (o : Oper) : Oper := { o with guard := none }
end
section
variable {P : Program} {n : Nat} {Q : Post} {s : Fm} {w : World} {ops : Array Oper} {fuel : Nat} {listed : Array Bool}
end
section
variable {P : Program} {n : Nat} {Q : Post} {s : Fm} {w : World} {ops : Array Oper} {fuel : Nat} {listed : Array Bool} {C : World → Prop}
theorem wpIn_quiet {o : Oper} {a : Act} {K : Act → Prop} {K' : Act → World → Prop} {Q' : Exit → Act → World → Prop} (hne : ∀ c, o.op ≠ .defer c) (hw : C w) (h : ∀ a w', C w' → K a → K' a w') (hh : o.quiet P a C K) : o.wpIn (Fw none) 0 P a w K' Q' := by
 obtain ⟨v, j, i⟩ := hh
 have b := j w hw
 unfold Oper.quietAt at b
 unfold Oper.wpIn
 refine ⟨fun _ _ => trivial, ?_⟩
 rw [Oper.semAt_eq _ _ _ hne]
 generalize (execOp a.eval o).run P w = r at *
 cases r with
 | ok m w' =>
  cases m <;> simp only [Oper.quietUpon] at b <;> simp only [Oper.uponIn]
  case value u =>
   obtain ⟨d, g⟩ := b
   rw [d, g]
   exact h _ _ hw i
  case skip =>
   obtain ⟨d, g⟩ := b
   rw [d, ← g]
   exact h _ _ hw i
  case enter f args =>
   obtain ⟨d, hc⟩ := b
   rw [d]
   exact ⟨fun hx => by simp [Fw] at hx, CallsIn.mono (calls_fw.2 hc) fun e w'' ⟨he, hw''⟩ => by subst he; exact h _ _ hw'' i⟩
 | halt x w' => simp only [Oper.quietUpon] at b
theorem opIn_quiet {i : Nat} {a : Act} {K : Act → Prop} {K' : Act → World → Prop} {Q' : Exit → Act → World → Prop} (hd : noDefers ops = true) (hC : C w) (h : ∀ a w', C w' → K a → K' a w') (hh : qOp P ops C i K a) : wpOpIn (Fw none) 0 P ops Q' i K' a w := by
 unfold qOp at hh
 unfold wpOpIn
 cases ho : ops[i]? with
 | none => simp only [ho] at hh ⊢; exact h _ _ hC hh
 | some o =>
  simp only [ho] at hh ⊢
  have hne : ∀ c, o.op ≠ .defer c := wZ (List.all_eq_true.1 hd o (by
   have := Array.mem_of_getElem? ho
   simpa using this))
  split
  ·rename_i hw; rw [if_pos hw] at hh; exact wpIn_quiet hne hC h hh
  ·rename_i hw; rw [if_neg hw] at hh; exact ⟨fun _ _ => trivial, h _ _ hC hh⟩
end
section ops
variable {r : Option Nat} {P : Program} {n : Nat} {Q : Post} {s : Fm} {w : World} {ops : Array Oper} {rest : List Oper}
variable {d : Option Tmp} {ty : TypeId} {pos : String} {af : Array Edge}
end ops
end Go.FK
end

/- === FKae === -/
section
/- FKae: a region that draws its order, of which the first operations only read and must all come before one that changes memory: they may be walked in the order of the text. My own text. -/
namespace Go.FK
open Go Go.RowKit
def onB (o : Oper) (i : Nat) : Bool := o.after.any fun e => Region.binds .any e && Nat.beq e.on i
def preOk (ops : Array Oper) (k : Nat) : Bool :=
  ((List.range k).all fun i => match ops[i]? with
    | some o => (o.after.all fun e => !Region.binds .any e || decide (e.on < i)) && (match o.guard with | none => true | some g => decide (g.1 < k))
    | none => false) &&
  ((List.range k).all fun i => (List.range (k + 1)).any fun j => decide (i < j) && (match ops[j]? with | some o => onB o i | none => false)) &&
  ((List.range ops.size).all fun j => decide (j ≤ k) || (match ops[j]? with | some o => o.after.any fun e => Region.binds .any e && decide (k ≤ e.on) | none => false))
def preL (k N : Nat) : Array Bool := ((List.range N).map fun j => decide (j < k)).toArray
section
variable {ops : Array Oper} {k : Nat} {L : Array Bool}
structure PreI (ops : Array Oper) (k : Nat) (L : Array Bool) : Prop where
  size : L.size = ops.size
  high : ∀ j, k ≤ j → j < ops.size → L.getD j true = false
  down : ∀ i o, i < k → ops[i]? = some o → L.getD i true = true → ∀ e ∈ o.after, Region.binds .any e = true → L.getD e.on false = true
theorem pre_back (h : preOk ops k = true) {i : Nat} (hi : i < k) : ∃ o, ops[i]? = some o ∧ (∀ e ∈ o.after, Region.binds .any e = true → e.on < i) ∧ (∀ g, o.guard = some g → g.1 < k) := by
 unfold preOk at h
 simp only [Bool.and_eq_true, List.all_eq_true, List.mem_range] at h
 have a := h.1.1 i hi
 cases ho : ops[i]? with
 | none => rw [ho] at a; cases a
 | some o =>
  rw [ho] at a
  simp only [Bool.and_eq_true] at a
  refine ⟨o, rfl, fun e he hb => ?_, fun g hg => ?_⟩
  ·have := Array.all_eq_true'.1 a.1 e he
   simpa [hb] using this
  ·have b := a.2; rw [hg] at b; simpa using b
theorem pre_used (h : preOk ops k = true) {i : Nat} (hi : i < k) : ∃ j o, i < j ∧ j ≤ k ∧ ops[j]? = some o ∧ ∃ e ∈ o.after, Region.binds .any e = true ∧ e.on = i := by
 unfold preOk at h
 simp only [Bool.and_eq_true, List.all_eq_true, List.mem_range, List.any_eq_true] at h
 obtain ⟨j, hj, b, a⟩ := h.1.2 i hi
 cases ho : ops[j]? with
 | none => rw [ho] at a; cases a
 | some o =>
  rw [ho] at a
  simp only [onB] at a
  obtain ⟨e, he, hb⟩ := Array.any_eq_true'.1 a
  simp only [Bool.and_eq_true] at hb
  exact ⟨j, o, by simpa using b, by omega, ho, e, he, hb.1, Nat.eq_of_beq_eq_true hb.2⟩
theorem pre_rest (h : preOk ops k = true) {j : Nat} (hj : k < j) {o : Oper} (ho : ops[j]? = some o) : ∃ e ∈ o.after, Region.binds .any e = true ∧ k ≤ e.on := by
 unfold preOk at h
 simp only [Bool.and_eq_true, List.all_eq_true, List.mem_range] at h
 have hlt : j < ops.size := (Array.getElem?_eq_some_iff.1 ho).1
 have a := h.2 j hlt
 rw [ho] at a
 simp only [Bool.or_eq_true] at a
 rcases a with a | a
 ·have := of_decide_eq_true a; omega
 ·obtain ⟨e, he, hb⟩ := Array.any_eq_true'.1 a
  simp only [Bool.and_eq_true] at hb
  exact ⟨e, he, hb.1, of_decide_eq_true hb.2⟩
theorem getD_tf {L : Array Bool} {i : Nat} (h : i < L.size) : L.getD i false = L.getD i true := by simp [h]
theorem pre_low (h : preOk ops k = true) (hI : PreI ops k L) (hk : k ≤ ops.size) {i : Nat} (hi : i < k) (hu : L.getD i true = false) {j : Nat} (hj : j ∈ Region.ready .any ops L) : j < k := by
 rcases Nat.lt_or_ge j k with hlt | hge
 ·exact hlt
 exfalso
 obtain ⟨c, o, ho, hall⟩ := mem_ready.1 hj
 rcases Nat.lt_or_ge k j with hlt | hle
 ·obtain ⟨e, he, hb, hke⟩ := pre_rest h hlt ho
  have a := hall e he hb
  rcases Nat.lt_or_ge e.on ops.size with hs | hs
  ·rw [getD_tf (by rw [hI.size]; exact hs), hI.high _ hke hs] at a; cases a
  ·rw [Array.getD_eq_getD_getElem?, Array.getElem?_eq_none (by rw [hI.size]; exact hs)] at a; cases a
 ·obtain rfl : j = k := by omega
  -- all of the k first are listed
  have key : ∀ m i, j - i ≤ m → i < j → L.getD i true = true := by
   intro m
   induction m with
   | zero => intro i a b; omega
   | succ m ih =>
    intro i a b
    obtain ⟨j', o', hij, hjk, ho', e, he, hb, heq⟩ := pre_used h b
    rw [← heq]
    rw [← getD_tf (by rw [hI.size]; omega)]
    rcases Nat.lt_or_ge j' j with hl | hg
    ·exact hI.down j' o' hl ho' (ih j' (by omega) hl) e he hb
    ·obtain rfl : j' = j := by omega
     rw [ho] at ho'; cases ho'
     exact hall e he hb
  have := key j i (by omega) hi
  rw [hu] at this; cases this
theorem pre_ready (h : preOk ops k = true) (hI : PreI ops k L) : ∀ i, i < k → L.getD i true = false → ∃ j, j < k ∧ j ∈ Region.ready .any ops L := by
 intro i
 induction i using Nat.strongRecOn with
 | ind i ih =>
  intro hi hu
  obtain ⟨o, ho, hb, _⟩ := pre_back h hi
  by_cases hx : ∃ m, m < i ∧ L.getD m true = false
  ·obtain ⟨m, hm, hmu⟩ := hx
   exact ih m hm (by omega) hmu
  ·refine ⟨i, hi, mem_ready.2 ⟨hu, o, ho, fun e he hbi => ?_⟩⟩
   have hlt := hb e he hbi
   have his : i < ops.size := (Array.getElem?_eq_some_iff.1 ho).1
   rw [getD_tf (by rw [hI.size]; omega)]
   cases hc : L.getD e.on true with
   | true => rfl
   | false => exact absurd ⟨_, hlt, hc⟩ hx
theorem PreI.set (hI : PreI ops k L) {i : Nat} (hi : i < k) (hr : i ∈ Region.ready .any ops L) : PreI ops k (L.setIfInBounds i true) := by
 obtain ⟨a, o, ho, hall⟩ := mem_ready.1 hr
 refine ⟨by rw [Array.size_setIfInBounds]; exact hI.size, fun j hj hs => by rw [getD_set_ne true (by omega)]; exact hI.high j hj hs, fun j o' hj ho' hl e he hb => ?_⟩
 by_cases hij : i = j
 ·subst hij
  rw [ho] at ho'; cases ho'
  exact getD_set_true (hall e he hb)
 ·rw [getD_set_ne true hij] at hl
  exact getD_set_true (hI.down j o' hj ho' hl e he hb)
def unl (L : Array Bool) : Nat → Nat
  | 0 => 0
  | k + 1 => (if L.getD k true = false then 1 else 0) + unl L k
theorem unl_far {i : Nat} : ∀ k, k ≤ i → unl (L.setIfInBounds i true) k = unl L k
 | 0, _ => rfl
 | k + 1, h => by unfold unl; rw [getD_set_ne true (by omega), unl_far k (by omega)]
theorem unl_set {i : Nat} (hs : i < L.size) (hu : L.getD i true = false) : ∀ k, i < k → unl (L.setIfInBounds i true) k + 1 = unl L k
 | 0, h => by omega
 | k + 1, h => by
  unfold unl
  by_cases hik : i = k
  ·subst hik
   rw [unl_far i (Nat.le_refl _), if_pos hu, if_neg (by simp [hs])]; omega
  ·rw [getD_set_ne true hik, ← unl_set hs hu k (by omega)]; omega
theorem unl_zero : ∀ k, unl L k = 0 → ∀ i, i < k → L.getD i true = true
 | 0, _, i, h => by omega
 | k + 1, h, i, hi => by
  unfold unl at h
  rcases Nat.lt_or_ge i k with hl | hg
  ·exact unl_zero k (by omega) i hl
  ·obtain rfl : i = k := by omega
   cases hc : L.getD i true with
   | true => rfl
   | false => rw [if_pos hc] at h; omega
theorem unl_some : ∀ k, unl L k ≠ 0 → ∃ i, i < k ∧ L.getD i true = false
 | 0, h => absurd rfl h
 | k + 1, h => by
  unfold unl at h
  by_cases hc : L.getD k true = false
  ·exact ⟨k, by omega, hc⟩
  ·rw [if_neg hc] at h
   obtain ⟨i, hi, hu⟩ := unl_some k (by omega)
   exact ⟨i, by omega, hu⟩
theorem unl_all {N : Nat} : ∀ k, k ≤ N → unl (Array.replicate N false) k = k
 | 0, _ => rfl
 | k + 1, h => by unfold unl; rw [if_pos (by simp [show k < N by omega]), unl_all k (by omega)]; omega
theorem preL_eq (hI : PreI ops k L) (hk : k ≤ ops.size) (h0 : unl L k = 0) : L = preL k ops.size := by
 refine Array.ext (by rw [hI.size]; simp [preL]) fun i h1 h2 => ?_
 have hs : i < ops.size := by rw [← hI.size]; exact h1
 have e : L.getD i true = L[i] := by simp [h1]
 rw [← e]
 have a : (preL k ops.size)[i] = decide (i < k) := by simp [preL]
 rw [a]
 rcases Nat.lt_or_ge i k with hl | hg
 ·rw [unl_zero k h0 i hl, decide_eq_true hl]
 ·rw [hI.high i hg hs, decide_eq_false (by omega)]
theorem ready_take (hI : PreI ops k L) (hk : k ≤ ops.size) {j : Nat} (hj : j < k) : j ∈ Region.ready .any ops L ↔ j ∈ Region.ready .any (ops.toList.take k).toArray L := by
 rw [mem_ready, mem_ready]
 have e : (ops.toList.take k).toArray[j]? = ops[j]? := by
  rw [List.getElem?_toArray, List.getElem?_take, if_pos hj, Array.getElem?_toList]
 rw [e]
theorem take_atE {j : Nat} (hj : j < k) : (ops.toList.take k).toArray[j]? = ops[j]? := by
 rw [List.getElem?_toArray, List.getElem?_take, if_pos hj, Array.getElem?_toList]
theorem yielded_take {j : Nat} (hj : j < k) (t : Array Value) : yielded (ops.toList.take k).toArray t j = yielded ops t j := by
 unfold yielded; rw [take_atE hj]
theorem wanted_take {o : Oper} (ho : ∀ g, o.guard = some g → g.1 < k) (t : Array Value) : Region.wanted o (yielded (ops.toList.take k).toArray t) = Region.wanted o (yielded ops t) := by
 unfold Region.wanted
 cases hg : o.guard with
 | none => rfl
 | some g =>
  obtain ⟨j, b⟩ := g
  simp only
  rw [yielded_take (ho _ hg)]
end
section
variable {P : Program} {n : Nat} {ops : Array Oper} {k fuel : Nat} {C : World → Prop} {K : Act → Prop} {Q' : Exit → Act → World → Prop}
theorem pre_any (h : preOk ops k = true) (hk : k ≤ ops.size) (hd : noDefers ops = true)
  (H : ∀ a w, C w → K a → wpAnyIn (Fw none) 0 P .any ops Q' fuel (preL k ops.size) a w) : ∀ (m : Nat) (L : Array Bool) (a : Act) (w : World), PreI ops k L → unl L k = m → C w →
  wpAnyQ P .any (ops.toList.take k).toArray C K m L a → wpAnyIn (Fw none) 0 P .any ops Q' (m + fuel) L a w
 | 0, L, a, w, hI, hu, hw, hq => by
  rw [Nat.zero_add, preL_eq hI hk hu]
  exact H a w hw hq.2
 | m + 1, L, a, w, hI, hu, hw, hq => by
  obtain ⟨f, d, c⟩ := unl_some k (by omega : unl L k ≠ 0)
  rw [show m + 1 + fuel = m + fuel + 1 by omega]
  refine ⟨fun he => ?_, fun i hi => ?_⟩
  ·obtain ⟨j, _, hj⟩ := pre_ready h hI f d c
   rw [he] at hj; cases hj
  ·have hik := pre_low h hI hk d c hi
   have b := hq.2 i ((ready_take hI hk hik).1 hi)
   obtain ⟨o, ho, _, hg⟩ := pre_back h hik
   have hs : i < L.size := by rw [hI.size]; omega
   have hun := (mem_ready.1 hi).1
   have hset := unl_set hs hun k hik
   have e : qOp P ops C i (wpAnyQ P .any (ops.toList.take k).toArray C K m (L.setIfInBounds i true)) a := by
    unfold qOp at b ⊢
    rw [take_atE hik, ho] at b
    rw [ho]
    simp only at b ⊢
    rw [wanted_take hg] at b
    exact b
   exact opIn_quiet hd hw (fun a' w' hw' hK => pre_any h hk hd H m _ a' w' (hI.set hik hi) (by omega) hw' hK) e
end
theorem PreI.zero {ops : Array Oper} {k : Nat} : PreI ops k (Array.replicate ops.size false) := by
 refine ⟨by simp, fun j _ hs => by simp [hs], fun i o hi ho hl e he hb => ?_⟩
 have hs : i < ops.size := (Array.getElem?_eq_some_iff.1 ho).1
 simp [hs] at hl
section
variable {P : Program} {n : Nat} {Q : Post} {s : Fm} {w : World}
theorem W_pre {r : Option Nat} {id : Nat} {l : List Oper} (k N m : Nat) (hN : Nat.beq l.length N = true) (hm : P.follows .mixedOrders = true) (hd : noDefers l.toArray = true) (hp : preOk l.toArray k = true)
  (hs : Region.noSelect (l.take k).toArray = true) (hB : Region.lexFrom .any (l.take k).toArray (l.take k).length 0 (Array.replicate N false) = true) (hk : Nat.beq (k + m) N = true)
  (h : Lq P n (l.take k).toArray w (fun s' => ∀ w', Below w.heap.size w w' → Li P n l.toArray Q m (preL k N) s' w') (l.take k) s) : W r P n (.region id l.toArray true) Q s w := by
 refine xY N hN hm hd fun w' hw' => ?_
 obtain rfl := Nat.eq_of_beq_eq_true hN
 have hk := Nat.eq_of_beq_eq_true hk
 have hl : (l.take k).length = k := by rw [List.length_take]; omega
 have key := pre_any (P := P) (Q' := upQ n Q) (C := fun w' => Below w.heap.size w w') (K := fun a => ∃ s, a = Fm.act n s ∧ ∀ w', Below w.heap.size w w' → Li P n l.toArray Q m (preL k l.length) s w') (fuel := m) hp (by simp; omega) hd (by
  rintro a d b ⟨e, rfl, hK⟩
  have := hK d b
  unfold Li at this
  simpa using this) k (Array.replicate l.length false) (s.act n) w' (by have := PreI.zero (ops := l.toArray) (k := k); simpa using this) (unl_all k (by omega)) hw' ?_
 ·unfold Li
  rw [hk] at key
  exact key
 ·unfold Lq at h
  have c := wpAnyQ_lex (md := .any) hs (l.take k) 0 (Array.replicate l.length false) (s.act n) (fun j => by simp) hB h
  rw [hl] at c
  simpa using c
end
end Go.FK
end

/- === WgmS === -/
section
/- Walks, written by my program walk.py out of the specification gmS.py: each theorem says what one function returns and that it leaves memory as it was. -/
namespace Go.Proofs.Ythjgnnfonofgkaa
open Go Go.RowKit Go.FK
set_option maxHeartbeats 4000000
set_option maxRecDepth 100000
theorem yT : Elem Try.prog 134 138 3 24 := ⟨Try.underlying134, zk, rfl⟩
theorem qZ (w : World) :
  Calls Try.prog 41 #[] w (Ret fun v w' => ∃ (cb0 : Nat), v = (pt cb0 0) ∧ w'.heap[cb0]? = some (.cells [(.slice none 0 0), (.bool true)].toArray 136 (0, 0)) ∧ w.heap.size ≤ cb0 ∧ Below w.heap.size w w') := by
 refine wL 3 Try.func41 rfl ?_
 have d := Below.refl w.heap.size w
 refine wR (zI (nR (zr (Value.agg #[(.slice none 0 0), (.bool true)]) (zN [(.slice none 0 0), (.bool true)] 136 ?_))))
 intro e f a
 have b := a.ge d.size
 have c := a.here
 have d := d.tr a.below
 exact zI (nQ (yB (yJ [(pt e 0)] ⟨e, rfl, c, b, d⟩)))
theorem qO (a : Nat) (b : Value) (xs : List (Int × Int × List UInt8)) (w : World) (c : w.heap[a]? = some (.cells [b, (.bool true)].toArray 136 (0, 0))) (d : Rd w encSpanS b xs) :
  Calls Try.prog 71 #[(pt a 0)] w (Ret fun v w' => v = (.bool false) ∧ Below w.heap.size w w') := by
 refine wL 12 Try.func71 rfl ?_
 have e := Below.refl w.heap.size w
 exact wR (zI (nR (zG (zr (.bool false) (zG (zw (zG (zw (zr (pt a 0) (zw (zr (pt a 1) (zw (zO 1 c rfl (zw (znt true (zpF (zI (nQ (yB (yJ [(.bool false)] ⟨rfl, e⟩))))))))))))))))))))
theorem c_cmp_S (lo : Int) (hi : Int) (val : List UInt8) (x : Int) (w : World) (h1 : -2147483648 ≤ hi ∧ hi ≤ 2147483647) (h2 : -2147483648 ≤ x ∧ x ≤ 2147483647) :
  Calls Try.prog 125 #[(Value.agg #[(I3 lo), (I3 hi), (S val)]), (I3 x)] w (Ret fun v w' => v = (I6 (hi - x)) ∧ Below w.heap.size w w') := by
 refine wL 11 Try.func125 rfl ?_
 have c := Below.refl w.heap.size w
 refine wR (zN [(I3 lo), (I3 hi), (S val)] 138 ?_)
 intro e f a
 have d := a.ge c.size
 have b := a.here
 have c := c.tr a.below
 exact zI (nR (wB 1 b rfl (L_conv (k := .i32) hi hi zk Try.underlying3 zk (xH _ zo zo) (zG (L_conv (k := .i32) x x zk Try.underlying3 zk (xH _ zo zo) (xL hi x (hi - x) rfl zk zk (xH _ zh zh) (zI (nQ (yB (yJ [(I6 (hi - x))] ⟨rfl, c⟩))))))))))
theorem c_bsf_S (b : Value) (xs : List (Int × Int × List UInt8)) (x : Int) (w : World) (a : Rd w encSpanS b xs) (hr : RiseG 0 xs) (hx : -2147483648 ≤ x ∧ x ≤ 2147483647) :
  Calls Try.prog 124 #[b, (I3 x), (.func (.func 125) #[] #[])] w (Ret fun v w' => v = (.tuple #[(N6 (fromG xs x)), (.bool (foundG xs x))]) ∧ Below w.heap.size w w') := by
 refine wL 49 Try.func124 rfl ?_
 have d := Below.refl w.heap.size w
 have ai := hr.len
 refine wR (zI (zI (nR (zG (vI Try.underlying134 (a).len (zI (nR (zG (zI (zI (nW (yC (wH (fun m s0 w0 => ∃ (i : Nat) (j : Nat), (m = j - i) ∧ (s0.ds = []) ∧ ([0, 1, 2, 6, 7, 8, 9, 10].map s0.f = [b, (I3 x), (.func (.func 125) #[] #[]), (I6 0), (.bool false), (N6 ((xs).length)), (N6 i), (N6 j)]) ∧ (Rd w0 encSpanS b xs) ∧ (Below w.heap.size w w0) ∧ (i ≤ j) ∧ (j ≤ xs.length) ∧ (lowG xs x i) ∧ (highG xs x j)) _ ⟨0, ((xs).length), rfl, zk, zk, a, d, by omega, by omega, lowG_zero xs x, highG_end xs x⟩ ?_)))))))))))))
 rintro m1 s2 w3 ⟨i, j, hm, h, ac, a, d, r, s, o, p⟩
 refine wF ac (yA (wR (zG (zG (nLt i j ?_ ?_)))))
 ·intro h4
  refine nQ (zT (zZ (zB (yC (wR (zG (zG (vG i j (L_conv (k := .i64) (((i + j) : Nat) : Int) (((i + j) : Nat) : Int) zk Try.underlying195 zk (wrap_u64 _ zo zo) (L_shr (k := .u64) (yk := .u64) (((i + j) : Nat) : Int) 1 2 rfl zk zk zk (L_conv (k := .u64) ((((i + j) / 2) : Nat) : Int) ((((i + j) / 2) : Nat) : Int) zk Try.underlying3 zk (xH _ zo zo) (zI (nR (zG (zG (zG ?_))))))))))))))))
  have t := yN xs ((i + j) / 2) zo; obtain ⟨q, aa⟩ := t
  have ab := hr.at aa
  refine zEA a yT ((i + j) / 2) aa [(I3 q.1), (I3 q.2.1), (S q.2.2)] rfl fun _ => (zG (zc (c_cmp_S q.1 q.2.1 q.2.2 x _ zo zo) ?_))
  rintro _ al ⟨rfl, e⟩
  refine zLt .i64 (q.2.1 - x) 0 ?_ ?_
  ·intro ae
   refine nQ (zT (zW (zG (vG ((i + j) / 2) 1 (zI (zR (zS ?_)))))))
   have d := d.tr e
   have a := a.below e
   refine zB ⟨_, zo, (((i + j) / 2) + 1), j, rfl, h, zk, a, d, zo, zo, ?_, ?_⟩
   ·exact lowG_step hr za zo
   exact p
  intro af
  refine nQ (zF (zW (zG (zI (zR (zS ?_))))))
  have d := d.tr e
  have a := a.below e
  refine zB ⟨_, zo, i, ((i + j) / 2), rfl, h, zk, a, d, zo, zo, ?_, ?_⟩
  ·exact o
  exact highG_step za zo
 intro aj
 refine nQ (zF (yZ (yE (yE (yP (zB (wR (zG (zG (zG (nLt i ((xs).length) ?_ ?_)))))))))))
 ·intro ag
  refine zG (zw (zG (zw (zG (zw (zG (zw ?_)))))))
  have t := yN xs i zo; obtain ⟨c, l⟩ := t
  have t := (a).at (k := 3) zj l
  obtain ⟨y, g, z, u⟩ := t
  have ab := hr.at l
  refine xO (k := .i64) b i _ y g yT z zo zk zk (zw (L_loadA y (g + i * 3) [(I3 c.1), (I3 c.2.1), (S c.2.2)] zk zk zk u (zw (zG (zw (zc (c_cmp_S c.1 c.2.1 c.2.2 x _ zo zo) ?_))))))
  rintro _ am ⟨rfl, n⟩
  refine zw (zEq .i64 (c.2.1 - x) 0 ?_ ?_)
  ·intro ad
   have d := d.tr n
   exact xN (zI (zI (nQ (yB (yJ [(N6 i), (.bool true)] (hd := h) ⟨qP (congrArg (fun x : Nat => Value.int .i64 (x : Int)) (by exact (fromG_done o p r zo s).symm)) (eb (by (rw [foundG_some (fromG_done o p r zo s) za]; simp; omega))), d⟩)))))
  intro ah
  have d := d.tr n
  exact xN (zI (zI (nQ (yB (yJ [(N6 i), (.bool false)] (hd := h) ⟨qP (congrArg (fun x : Nat => Value.int .i64 (x : Int)) (by exact (fromG_done o p r zo s).symm)) (eb (by (rw [foundG_some (fromG_done o p r zo s) za]; simp; omega))), d⟩)))))
 intro ak
 exact zG (zs (zs (zs (zs (zs (zs (zs (zs (zpF (zI (zI (nQ (yB (yJ [(N6 i), (.bool false)] (hd := h) ⟨qP (congrArg (fun x : Nat => Value.int .i64 (x : Int)) (by exact (fromG_done o p r zo s).symm)) (eb (by (rw [foundG_none (fromG_done o p r zo s) zo]; done))), d⟩))))))))))))))
theorem c_from_S (b : Nat) (a : Value) (xs : List (Int × Int × List UInt8)) (x : Int) (w : World) (f : w.heap[b]? = some (.cells [a, (.bool true)].toArray 136 (0, 0))) (c : Rd w encSpanS a xs) (hr : RiseG 0 xs) (hx : -2147483648 ≤ x ∧ x ≤ 2147483647) :
  Calls Try.prog 88 #[(pt b 0), (I3 x)] w (Ret fun v w' => v = (N6 (fromG xs x)) ∧ Below w.heap.size w w') := by
 refine wL 17 Try.func88 rfl ?_
 have d := Below.refl w.heap.size w
 have g := hr.len
 refine wR (zI (nR (zG (zr (pt b 0) (wB 0 f rfl (zG (zc (c_bsf_S a xs x _ c (by exact hr) zo) ?_)))))))
 rintro _ h ⟨rfl, e⟩
 have d := d.tr e
 exact zG (zr (N6 (fromG xs x)) (zr (.bool (foundG xs x)) (zI (zI (nR (zG (zI (nQ (yB (yJ [(N6 (fromG xs x))] ⟨rfl, d⟩))))))))))
theorem c_len_S (c : Nat) (b : Value) (xs : List (Int × Int × List UInt8)) (w : World) (d : w.heap[c]? = some (.cells [b, (.bool true)].toArray 136 (0, 0))) (a : Rd w encSpanS b xs) :
  Calls Try.prog 48 #[(pt c 0)] w (Ret fun v w' => v = (N6 xs.length) ∧ Below w.heap.size w w') := by
 refine wL 10 Try.func48 rfl ?_
 have f := Below.refl w.heap.size w
 refine wR (zI (nW (wR (zG (zc (qO c b xs _ d a) ?_)))))
 rintro _ g ⟨rfl, e⟩
 have f := f.tr e
 have d := zA d e
 have a := a.below e
 exact nQ (zF (zZ (zB (wR (zG (zr (pt c 0) (wB 0 d rfl (vI Try.underlying134 (a).len (zI (nQ (yB (yJ [(N6 ((xs).length))] ⟨congrArg (fun x : Nat => Value.int .i64 (x : Int)) (by rfl), f⟩))))))))))))
theorem c_at_S (c : Nat) (d : Value) (xs : List (Int × Int × List UInt8)) (x : Int) (w : World) (b : w.heap[c]? = some (.cells [d, (.bool true)].toArray 136 (0, 0))) (a : Rd w encSpanS d xs) (hr : RiseG 0 xs) :
  Calls Try.prog 46 #[(pt c 0), (I3 x)] w (Ret fun v w' => v = (.tuple #[(S ((atM ([] : List UInt8) xs x).1)), (.bool ((atM ([] : List UInt8) xs x).2))]) ∧ Below w.heap.size w w') := by
 refine wL 50 Try.func46 rfl ?_
 have f := Below.refl w.heap.size w
 have t := hr.len
 refine wR (zI (zI (nR (zI (nW (wR (zG (zc (qO c d xs _ b a) ?_))))))))
 rintro _ z ⟨rfl, g⟩
 refine zG (zw (zG (zw (zLt .i32 x 0 ?_ ?_))))
 ·intro y
  have f := f.tr g
  exact zpF (zG (zs (zs (xN (nQ (zT (wR (zG (zI (zI (nQ (yB (zP (yJ [(S []), (.bool false)] ⟨qP (congrArg S (by (rw [atG_out zo]; done))) (eb (by (rw [atG_out zo]; done))), f⟩))))))))))))))
 intro u
 refine zpF (zG (zw (zG (zw (zGt .i32 x 1114111 ?_ ?_)))))
 ·intro h6
  have f := f.tr g
  exact zpF (nQ (zT (wR (zG (zI (zI (nQ (yB (zP (yJ [(S []), (.bool false)] ⟨qP (congrArg S (by (rw [atG_out zo]; done))) (eb (by (rw [atG_out zo]; done))), f⟩))))))))))
 intro h7
 have b := zA b g
 have a := a.below g
 refine zpF (nQ (zF (zZ (zB (yA (wR (zG (zG (zc (c_from_S c d xs x _ b a (by exact hr) zo) ?_)))))))))
 rintro _ w8 ⟨rfl, h⟩
 have := fromG_le xs x
 have b := zA b h
 have a := a.below h
 refine zI (nR (zG (zG (zr (pt c 0) (wB 0 b rfl (vI Try.underlying134 (a).len (nLt (fromG xs x) ((xs).length) ?_ ?_)))))))
 ·intro q
  refine zG (zw (zG (zw (zr (pt c 0) (zw (zr (pt c 0) (zw (zO 0 b rfl (zw (zG (zw ?_)))))))))))
  have o := yN xs (fromG xs x) zo; obtain ⟨j, i⟩ := o
  have o := (a).at (k := 3) zj i
  obtain ⟨l, e, n, m⟩ := o
  refine xO (k := .i64) d (fromG xs x) _ l e yT n zo zk zk (zw (zr (pt l (e + (fromG xs x) * 3)) (zw (yK l (e + (fromG xs x) * 3) (I3 j.1) zk zk (m 0 _ rfl) (zw (zG (zw (zLe .i32 j.1 x ?_ ?_))))))))
  ·intro s
   refine xN (nQ (zT (wR (zG (zr (pt c 0) (wB 0 b rfl (zG ?_)))))))
   have f := (f.tr g).tr h
   exact zE a yT (fromG xs x) i 2 rfl fun _ _ => (zI (zI (nQ (yB (zP (yJ [(S j.2.2), (.bool true)] ⟨qP (congrArg S (by (rw [atG_in hr zo zo za zo]; done))) (eb (by (rw [atG_in hr zo zo za zo]; done))), f⟩))))))
  intro p
  have f := (f.tr g).tr h
  exact xN (nQ (zF (zZ (zB (wR (zG (zI (zI (nQ (yB (yJ [(S []), (.bool false)] ⟨qP (congrArg S (by (rw [atG_gap hr zo zo za zo]; done))) (eb (by (rw [atG_gap hr zo zo za zo]; done))), f⟩)))))))))))
 intro r
 have f := (f.tr g).tr h
 exact zG (zs (zs (zs (zs (zs (zs (zs (zs (zs (zs (zpF (nQ (zF (zZ (zB (wR (zG (zI (zI (nQ (yB (yJ [(S []), (.bool false)] ⟨qP (congrArg S (by (rw [atG_end zo zo zo]; done))) (eb (by (rw [atG_end zo zo zo]; done))), f⟩))))))))))))))))))))))
theorem c_size_S (j : Nat) (d : Value) (xs : List (Int × Int × List UInt8)) (w : World) (b : w.heap[j]? = some (.cells [d, (.bool true)].toArray 136 (0, 0))) (a : Rd w encSpanS d xs) (hr : RiseG 0 xs) :
  Calls Try.prog 36 #[(pt j 0)] w (Ret fun v w' => v = (I6 (sizeG xs)) ∧ Below w.heap.size w w') := by
 refine wL 28 Try.func36 rfl ?_
 have n := Below.refl w.heap.size w
 have g := a
 have ac := hr.len
 refine wR (zI (nW (wR (zG (zc (qO j d xs _ b a) ?_)))))
 rintro _ w1 ⟨rfl, q⟩
 have n := n.tr q
 have b := zA b q
 have a := g.below n
 refine nQ (zF (zZ (zB (wR (zI (nW (wR (zG (zr (pt j 0) (wB 0 b rfl (vI Try.underlying134 (a).len (zG (nQ (yC (wH (fun m s0 w0 => ∃ (i : Nat) (z : Int), (m = xs.length - i) ∧ (s0.ds = []) ∧ ([2, 11, 12, 3, 13].map s0.f = [(I6 0), d, (N6 ((xs).length)), (I6 z), (N6 i)]) ∧ (Rd w0 encSpanS d xs) ∧ (w0.heap[j]? = some (.cells [d, (.bool true)].toArray 136 (0, 0))) ∧ (Below w.heap.size w w0) ∧ (i ≤ xs.length) ∧ (z = sizeG (xs.take i))) _ ⟨0, 0, rfl, zk, zk, a, b, n, by omega, rfl⟩ ?_)))))))))))))))
 rintro m4 s5 w6 ⟨i, z, hm, r, s, a, b, n, i1, t⟩
 refine wF s ?_
 have af := sizeG_le hr i i1
 refine wR (nLt i ((xs).length) ?_ ?_)
 ·intro h7
  refine nW (zT (zZ (zB (yA (yC (wR ?_))))))
  have u := yN xs i zo; obtain ⟨c, p⟩ := u
  have aa := hr.at p
  refine zEA a yT i p [(I3 c.1), (I3 c.2.1), (S c.2.2)] rfl fun _ => (zN [(I3 0), (I3 0), (S [])] 138 ?_)
  intro ag ab h
  have o := h.ge n.size
  have e := h.here
  refine qC [(I3 c.1), (I3 c.2.1), (S c.2.2)] e ?_
  intro ae l
  have b := zA b h.below
  have b := zC b l (zH b e zi)
  have e := l.here
  refine nQ (zW (zG (wB 1 e rfl (wB 0 e rfl (xL c.2.1 c.1 (c.2.1 - c.1) rfl zk zk (xD _ zh zh) (L_conv (k := .i32) (c.2.1 - c.1) (c.2.1 - c.1) zk Try.underlying3 zk (xH _ zo zo) (xL (c.2.1 - c.1) 1 ((c.2.1 - c.1) + 1) rfl zk zk (xH _ zh zh) (xL z ((c.2.1 - c.1) + 1) (z + ((c.2.1 - c.1) + 1)) rfl zk zk (xH _ zh zh) (zI (zR (zS (zB (zW (vG i 1 (zG (zR ?_))))))))))))))))
  have n := (n.tr h.below).trans (l.below o)
  have a := g.below n
  refine zB ⟨_, zo, (i + 1), (z + ((c.2.1 - c.1) + 1)), rfl, r, zk, a, b, n, zo, ?_⟩
  rw [t, ← sizeG_take za] <;> omega
 intro y
 exact nW (zF (yZ (yE (yE (yP (zB (wR (zG (zI (nQ (yB (yJ [(I6 z)] (hd := r) ⟨e6 (by rw [t, List.take_of_length_le zo]), n⟩))))))))))))
theorem xW (f : Nat) (c : Value) (xs : List (Int × Int × List UInt8)) (lo : Int) (hi : Int) (w : World) (h : w.heap[f]? = some (.cells [c, (.bool true)].toArray 136 (0, 0))) (l : Rd w encSpanS c xs) (hr : RiseG 0 xs) (hlo : -2147483648 ≤ lo ∧ lo ≤ 2147483647) :
  Calls Try.prog 86 #[(pt f 0), (Value.agg #[(I3 lo), (I3 hi)])] w (Ret fun v w' => v = (.tuple #[(Value.agg #[(I3 ((metV ([] : List UInt8) (metG xs lo hi)).1)), (I3 ((metV ([] : List UInt8) (metG xs lo hi)).2.1))]), (S ((metV ([] : List UInt8) (metG xs lo hi)).2.2.1)), (.bool ((metV ([] : List UInt8) (metG xs lo hi)).2.2.2))]) ∧ Below w.heap.size w w') := by
 refine wL 69 Try.func86 rfl ?_
 have i := Below.refl w.heap.size w
 have g := l
 have bb := hr.len
 refine wR (zN [(I3 lo), (I3 hi)] 29 ?_)
 intro b1 w2 af
 have a5 := af.ge i.size
 have j := af.here
 refine zN [(I3 0), (I3 0)] 29 ?_
 intro b4 w5 aa
 have i := i.tr af.below
 have n := aa.ge i.size
 have b := aa.here
 have i := i.tr aa.below
 have h := zA (zA h af.below) aa.below
 have l := g.below i
 refine zI (zI (nR (zI (nW (wR (zG (zc (qO f c xs _ h l) ?_)))))))
 rintro _ w7 ⟨rfl, s⟩
 have j := zA (zA j aa.below) s
 refine zG (zw (wG j (zw (zc (c_points_May lo hi _ ) ?_))))
 rintro _ a7 ⟨rfl, m⟩
 refine xX (mayF lo hi) ?_ ?_
 ·intro bf
  have i := (i.tr s).tr m
  have h := zA (zA h s) m
  have j := zA j m
  have l := g.below i
  refine zw (znt true (zpF (nQ (zF (zZ (zB (yA (wR (zG (wB 0 j rfl (zc (c_from_S f c xs lo _ h l (by exact hr) zo) ?_)))))))))))
  rintro _ a9 ⟨rfl, o⟩
  have := fromG_le xs lo
  have i := i.tr o
  have h := zA h o
  have l := g.below i
  refine zI (nW (yV zk zk (zY (zY (zV (pt f 0) zf (zV (pt f 0) zf (zX f 0 c zk zf (zK h rfl) (Lq_len 134 138 (xs).length c rfl Try.underlying134 (l).len zk (Lq_cmp .i64 (((fromG xs lo) : Nat) : Int) (((xs).length : Nat) : Int) ((fromG xs lo) < (xs).length) rfl (cmpN_lt (fromG xs lo) ((xs).length)) zk zk ?_ ?_)))))))))
  ·intro a2
   replace a2 : (fromG xs lo) < (xs).length := by omega
   refine zY (qw (zY (qw (zV (pt f 0) zf (qw (zV (pt f 0) zf (qw (zX f 0 c zk zf (zK h rfl) (qw (zY (qw ?_)))))))))))
   have hz := yN xs (fromG xs lo) zo; obtain ⟨d, u⟩ := hz
   have hz := (l).at (k := 3) zj u
   obtain ⟨ap, t, av, ar⟩ := hz
   have j := zA j o
   refine yO (k := .i64) c (fromG xs lo) _ ap t yT av zo zk zk (qw (zV (pt ap (t + (fromG xs lo) * 3)) zf (qw (zX ap (t + (fromG xs lo) * 3) (I3 d.1) zk zf (ar 0 _ rfl) (qw (zV (pt b1 1) zf (qw (zX b1 1 (I3 hi) zk zf (zK j rfl) (qw (Lq_cmp .i32 d.1 hi (d.1 ≤ hi) rfl (cmp_le d.1 hi) zk zk ?_ ?_))))))))))
   ·intro a4
    replace a4 : d.1 ≤ hi := by omega
    refine qT (yM ?_)
    intro a8 z
    refine zB (zT (yA (W_held 28 zk zk ?_)))
    intro ao ab
    refine ⟨fun w2 => Ch (fun k => k = b4) ao w2, ?_⟩
    have a : Ch (fun k => k = b4) ao ao := Ch.refl _ _
    refine hp 0 rfl (pt f 0) a (hp 1 rfl (pt f 0) a (hp 2 rfl (pt f 0) a ?_))
    have h := zA (zA h z) ab
    have b := zA (zA (zA (zA (zA b s) m) o) z) ab
    refine ht 3 rfl c a (R_load f 0 c zk zf (fun w2 h2 => zK (zL h h2 (zH h b zi)) rfl)) ?_
    refine hp 4 rfl (N6 (fromG xs lo)) a ?_
    have hz := (g).at (k := 3) zj u
    obtain ⟨ag, r, aw, a0⟩ := hz
    refine ht 5 rfl (pt ag (r + (fromG xs lo) * 3)) a (R_ixaddr (k := .i64) c (fromG xs lo) _ ag r yT aw zo zk zk) (hp 6 rfl (pt ag (r + (fromG xs lo) * 3)) a ?_)
    have i := (i.tr z).tr ab
    refine ht 7 rfl (I3 d.1) a (R_load ag (r + (fromG xs lo) * 3) (I3 d.1) zk zf (fun w2 h2 => cell_old (a0 0 _ rfl) i h2 (fun k e => e ▸ n))) ?_
    refine hp 8 rfl (pt f 0) a (hp 9 rfl (pt f 0) a (hp 10 rfl (pt f 0) a (ht 11 rfl c a (R_load f 0 c zk zf (fun w2 h2 => zK (zL h h2 (zH h b zi)) rfl)) ?_)))
    refine hp 12 rfl (N6 (fromG xs lo)) a ?_
    have hz := (g).at (k := 3) zj u
    obtain ⟨ad, p, ay, ax⟩ := hz
    refine ht 13 rfl (pt ad (p + (fromG xs lo) * 3)) a (R_ixaddr (k := .i64) c (fromG xs lo) _ ad p yT ay zo zk zk) (hp 14 rfl (pt ad ((p + (fromG xs lo) * 3) + 1)) a (ht 15 rfl (I3 d.2.1) a (R_load ad ((p + (fromG xs lo) * 3) + 1) (I3 d.2.1) zk zf (fun w2 h2 => cell_old (ax 1 _ rfl) i h2 (fun k e => e ▸ n))) ?_))
    refine hp 16 rfl (Value.agg #[(I3 d.1), (I3 d.2.1)]) a (hp 17 rfl (pt f 0) a (hp 18 rfl (pt f 0) a (hp 19 rfl (pt f 0) a (ht 20 rfl c a (R_load f 0 c zk zf (fun w2 h2 => zK (zL h h2 (zH h b zi)) rfl)) ?_))))
    refine hp 21 rfl (N6 (fromG xs lo)) a ?_
    have hz := (g).at (k := 3) zj u
    obtain ⟨ae, q, au, az⟩ := hz
    refine ht 22 rfl (pt ae (q + (fromG xs lo) * 3)) a (R_ixaddr (k := .i64) c (fromG xs lo) _ ae q yT au zo zk zk) (hp 23 rfl (pt ae ((q + (fromG xs lo) * 3) + 2)) a (ht 24 rfl (S d.2.2) a (R_load ae ((q + (fromG xs lo) * 3) + 2) (S d.2.2) zk zf (fun w2 h2 => cell_old (az 2 _ rfl) i h2 (fun k e => e ▸ n))) ?_))
    refine H_storeA 25 b4 0 [(I3 d.1), (I3 d.2.1)] [(I3 0), (I3 0)] [(I3 d.1), (I3 d.2.1)] 29 rfl zk zk zk rfl zk b zk rfl ?_
    intro ba y
    refine ⟨a.trans (Ch.of_wrote y), ?_⟩
    have b := y.here
    have ah := a.trans (Ch.of_wrote y)
    refine hp 26 rfl (S d.2.2) ah (hp 27 rfl (.bool true) ah (H_done zk (zB (yB (zP (qI [.cell 4 29, .tmp 5, .tmp 6] [(Value.agg #[(I3 d.1), (I3 d.2.1)]), (S d.2.2), (.bool true)] rfl rfl ⟨⟨⟨b4, 0, none⟩, zk, wV [(I3 d.1), (I3 d.2.1)] zk zk (wE b)⟩, zk, zk, trivial⟩ ?_))))))
    have i := i.trans (y.below n)
    exact ⟨tup3 (by (rw [metG_yes za za zo]; rfl)) (congrArg S (by (rw [metG_yes za za zo]; rfl))) (eb (by (rw [metG_yes za za zo]; rfl))), i⟩
   intro a1
   replace a1 : hi < d.1 := by omega
   refine qT (yM ?_)
   intro bc al
   have b := zA (zA (zA (zA b s) m) o) al
   refine zB (zF (zZ (zB (wR (zr (Value.agg #[(I3 0), (I3 0)]) (zG (qC [(I3 0), (I3 0)] b ?_)))))))
   intro be am
   have b := am.here
   refine zI (zI (nQ (yB (qI [.cell 4 29, .tmp 5, .tmp 6] [(Value.agg #[(I3 0), (I3 0)]), (S []), (.bool false)] rfl rfl ⟨⟨⟨b4, 0, none⟩, zk, wV [(I3 0), (I3 0)] zk zk (wE b)⟩, zk, zk, trivial⟩ ?_))))
   have i := (i.tr al).trans (am.below n)
   exact ⟨tup3 (by (rw [metG_no za za zo]; rfl)) (congrArg S (by (rw [metG_no za za zo]; rfl))) (eb (by (rw [metG_no za za zo]; rfl))), i⟩
  intro a3
  replace a3 : (xs).length ≤ (fromG xs lo) := by omega
  refine zY (qs (qs (qs (qs (qs (qs (qs (qs (qs (qs (qs (qF (yM ?_)))))))))))))
  intro bh an
  have b := zA (zA (zA (zA b s) m) o) an
  refine zB (zF (zZ (zB (wR (zr (Value.agg #[(I3 0), (I3 0)]) (zG (qC [(I3 0), (I3 0)] b ?_)))))))
  intro bi ak
  have b := ak.here
  refine zI (zI (nQ (yB (qI [.cell 4 29, .tmp 5, .tmp 6] [(Value.agg #[(I3 0), (I3 0)]), (S []), (.bool false)] rfl rfl ⟨⟨⟨b4, 0, none⟩, zk, wV [(I3 0), (I3 0)] zk zk (wE b)⟩, zk, zk, trivial⟩ ?_))))
  have i := (i.tr an).trans (ak.below n)
  exact ⟨tup3 (by (rw [metG_end za zo]; rfl)) (congrArg S (by (rw [metG_end za zo]; rfl))) (eb (by (rw [metG_end za zo]; rfl))), i⟩
 intro bg
 have b := zA (zA b s) m
 refine zw (znt false (zpF (nQ (zT (wR (zr (Value.agg #[(I3 0), (I3 0)]) (zG (qC [(I3 0), (I3 0)] b ?_))))))))
 intro bd ai
 have b := ai.here
 refine zI (zI (nQ (yB (zP (qI [.cell 4 29, .tmp 5, .tmp 6] [(Value.agg #[(I3 0), (I3 0)]), (S []), (.bool false)] rfl rfl ⟨⟨⟨b4, 0, none⟩, zk, wV [(I3 0), (I3 0)] zk zk (wE b)⟩, zk, zk, trivial⟩ ?_)))))
 have i := ((i.tr s).tr m).trans (ai.below n)
 exact ⟨tup3 (by (rw [metG_may za]; rfl)) (congrArg S (by (rw [metG_may za]; rfl))) (eb (by (rw [metG_may za]; rfl))), i⟩
theorem c_insert_S (B_ : Nat) (o : Value) (s : List (Int × Int × List UInt8)) (i : Nat) (aa : Value) (vs : List (Int × Int × List UInt8)) (w : World) (hs0 : B_ ≤ w.heap.size) (af : Row w B_ 138 3 encSpanS o s) (r : Row w 0 138 3 encSpanS aa vs) (l : Value.ownBlock aa = none ∨ Value.ownBlock aa ≠ Value.ownBlock o) (hi : i ≤ s.length) (hl : s.length ≤ 4194304) (hv : vs.length ≤ 4194304) :
  Calls Try.prog 126 #[o, (N6 i), aa] w (Ret fun v w' => ∃ q0 : Value, v = q0 ∧ Row w' B_ 138 3 encSpanS q0 (List.take i s ++ vs ++ List.drop i s) ∧ (∀ g, Value.ownBlock q0 = some g → w.heap.size ≤ g ∨ Value.ownBlock o = some g) ∧ Ch (fun k => Value.ownBlock o = some k) w w') := by
 refine wL 95 Try.func126 rfl ?_
 have hb := Below.refl B_ w
 have hs : B_ ≤ (World.heap w).size := hs0
 have hc := Ch.refl (fun k => Value.ownBlock o = some k) w
 have f : ∀ g, Value.ownBlock o = some g → (World.heap w).size ≤ g ∨ (fun k => Value.ownBlock o = some k) g := fun g h => .inr h
 refine wR (zI (nR (zG (zG (L_slfrom yT o ((s).length) i (af.shape) zo zk ⟨.i64, zk⟩ ?_)))))
 intro co cu
 refine nR (zG (vI Try.underlying134 (r.rd).len (zI (nW (wR (zG (nEq ((vs).length) 0 ?_ ?_)))))))
 ·intro h3
  refine nQ (zT (wR (zG (zI (nQ (yB (zP (yJ [o] ?_))))))))
  have e0 : s = (List.take i s ++ vs ++ List.drop i s) := by exact gep_same rfl zo
  exact ⟨_, rfl, af.cast e0, f, hc⟩
 intro h4
 refine nQ (zF (zZ (zB (wR (zG (vI Try.underlying134 (af.rd).len (zI (nW (wR (zG (zG (nEq i ((s).length) ?_ ?_))))))))))))
 ·intro h5
  refine nQ (zT (wR (zG (zG (xV yT B_ o aa s vs hs af r.rd zo zj zj zk zk zk ?_)))))
  intro v6 w7 b9 bd a2 
  have ay := dr_app (D := (fun k => Value.ownBlock o = some k)) a2 (by have h0 := hc.size; omega : (World.heap w).size ≤ (World.heap w).size) f
  have aw := xR r a2 l
  have hb := hb.tg hs bd af
  replace hs := Nat.le_trans hs (bd.size)
  have af := b9
  replace hc := hc.trans2 (Ch.of_grown bd) (fun k e => f k e)
  have f := ay; clear ay
  refine zI (nQ (yB (zP (yJ [v6] ?_))))
  have e0 : (s ++ vs) = (List.take i s ++ vs ++ List.drop i s) := by exact gep_end zo
  exact ⟨_, rfl, af.cast e0, f, hc⟩
 intro cn
 refine nQ (zF (zZ (zB (yA (wR (zG (zG (vG ((s).length) ((vs).length) (zG ?_)))))))))
 have m : ∀ x, (encSpanS x).length = 3 := fun _ => rfl
 have hz := Row.raw af m zo
 obtain ⟨ab, c, cg, t, ca, d, a8⟩ := hz
 have b8 := af.shape
 have ba := (at_mid m a8 i zo).1
 have a5 := wP (at_mid m a8 i zo).2 (Nat.zero_add _)
 refine L_cap 134 138 c o rfl Try.underlying134 ⟨_, _, t⟩ zk (nGt ((s).length + (vs).length) c ?_ ?_)
 ·intro ct
  refine nQ (zT (wR (zG (zG (L_sltoR yT o s i af zj zo zk ⟨.i64, zk⟩ ?_)))))
  intro a1 ak ar
  have bi : ∀ g, Value.ownBlock a1 = some g → (World.heap w).size ≤ g ∨ (fun k => Value.ownBlock o = some k) g := by rw [ar.own]; exact f
  have ae := (by rw [ar.own]; exact l : Value.ownBlock aa = none ∨ Value.ownBlock aa ≠ Value.ownBlock a1); have ax := yW ae
  refine zG (zG (vG ((s).length) ((vs).length) (zG (zsb ((s).length + (vs).length) i ?_))))
  have bs := samecap_val ar t ak
  refine L_appZeros (kq := .i64) (kn := .i64) yT Try.underlying3 ((0, 0, ([] : List UInt8)) : SpS) zk B_ a1 (List.take i s) (((s).length + (vs).length) - i) c hs ak zj bs.1 zo zl zo bs.2 zk zk zk ?_
  intro az cd a7 an ai 
  have ay := dr_app (D := (fun k => Value.ownBlock o = some k)) ai (by have h0 := hc.size; omega : (World.heap w).size ≤ (World.heap w).size) (dr_nil _)
  have a4 := grow_ne d (zer_new a7 ai zl)
  replace d := Raw.grown d an (by simp [Value.ownBlock])
  have bq := xR af ai (qD _)
  have aw := xR r ai (qD _)
  have a6 := xR ak ai (qD _)
  have hb := hb.grown an hs (fun k hk => by simp [Value.ownBlock] at hk)
  replace hc := hc.trans2 (Ch.of_grown an) (fun k e => by simp [Value.ownBlock] at e)
  replace hs := Nat.le_trans hs (an.size)
  have r := r.grown an (by cases h : Value.ownBlock _ <;> simp [Value.ownBlock])
  have a3 := a7
  have ac := ay; clear ay
  have m : ∀ x, (encSpanS x).length = 3 := fun _ => rfl
  have hz := Row.raw a3 m zl
  obtain ⟨bf, al, cj, u, bc, av, bx⟩ := hz
  have bn := a3.shape
  have au := bc; simp only [List.length_append, List.length_take, List.length_replicate] at au
  have be := (at_split m bx).1
  have n : bf ≠ ab := fun e => a4 (by rw [yX u, e])
  have a0 := n.symm
  refine zI (nR (zG (zG (L_slRaw yT az bf 0 ((((List.take i s) ++ (List.replicate (((s).length + (vs).length) - i) ((0, 0, ([] : List UInt8)) : SpS)))).length) al i ((((List.take i s) ++ (List.replicate (((s).length + (vs).length) - i) ((0, 0, ([] : List UInt8)) : SpS)))).length) (by rw [Nat.zero_mul]; exact u) zk ⟨.i64, zk⟩ rfl zl zo zo (zG (L_copyRd (a := (0 + i)) (p := ((((List.take i s) ++ (List.replicate (((s).length + (vs).length) - i) ((0, 0, ([] : List UInt8)) : SpS)))).length - i)) (c1 := (al - i)) yT aa vs av r.rd m zj zk zk zl zo ?_))))))
  intro ch ah b7
  have bj := at_lo (a := (0 + i)) (cs := List.flatMap encSpanS vs) be zl (Raw.le av zo)
  have bu := at_put (a := (0 + i)) (ys := vs) m (Raw.le2 av zo)
  have j : World.grownBy cd ch (Value.ownBlock az) := by rw [yX u]; exact b7
  have hb := hb.grown j hs (fun k hk => by rw [yX u] at hk; cases hk; exact av.base)
  replace hs := Nat.le_trans hs j.size
  replace d := d.grown j (by rw [yX u]; exact fun e => n (Option.some.inj e))
  replace hc := hc.trans2 (Ch.of_grown j) (fun k e => ac k e)
  clear j
  refine nW (W_pre 8 9 1 zk zk zk zk zk zk zk (zY (zY (zY (qR i ((vs).length) zo zk zk (qM yT az bf 0 ((((List.take i s) ++ (List.replicate (((s).length + (vs).length) - i) ((0, 0, ([] : List UInt8)) : SpS)))).length) al (i + (vs).length) ((((List.take i s) ++ (List.replicate (((s).length + (vs).length) - i) ((0, 0, ([] : List UInt8)) : SpS)))).length) (by rw [Nat.zero_mul]; exact u) zk ⟨.i64, zk⟩ rfl zl zo zo (zY (zY (qM yT o ab 0 ((s).length) c i ((s).length) (by rw [Nat.zero_mul]; exact t) zk ⟨.i64, zk⟩ rfl zo zo zo (yM ?_))))))))))
  intro cb ap
  have hb := hb.trans (ap.mono hs)
  replace hs := Nat.le_trans hs (ap.size)
  refine yF 8 zk (yL 8 rfl ?_ rfl)
  replace d := Raw.below d ap
  replace ah := Raw.below ah ap
  refine L_copyRd (a := (0 + (i + (vs).length))) (p := ((((List.take i s) ++ (List.replicate (((s).length + (vs).length) - i) ((0, 0, ([] : List UInt8)) : SpS)))).length - (i + (vs).length))) (c1 := (al - (i + (vs).length))) yT (.slice (some ⟨ab, (0 + i) * 3, none⟩) ((s).length - i) (c - i)) (List.drop i s) ah (at_rd d m (wP a5 zo) zl) m zj zk zk zl zl ?_
  intro cf bw bt
  have bg := at_lo (a := (0 + (i + (vs).length))) (cs := List.flatMap encSpanS (List.drop i s)) bj zl (Raw.le ah zo)
  have b5 := at_lo (a := (0 + (i + (vs).length))) (cs := List.flatMap encSpanS (List.drop i s)) bu zo (Raw.le ah zo)
  have b2 := at_put (a := (0 + (i + (vs).length))) (ys := (List.drop i s)) m (Raw.le2 ah zl)
  have j : World.grownBy cb cf (Value.ownBlock az) := by rw [yX u]; exact bt
  have hb := hb.grown j hs (fun k hk => by rw [yX u] at hk; cases hk; exact ah.base)
  replace hs := Nat.le_trans hs j.size
  replace d := d.grown j (by rw [yX u]; exact fun e => n (Option.some.inj e))
  replace hc := (hc.trans2 (Ch.of_below ap) (fun _ h => h.elim)).trans2 (Ch.of_grown j) (fun k e => ac k e)
  clear j
  refine zR ?_
  refine ⟨rfl, yS zk (zB (wR (zG (zI (nQ (yB (zP (yJ [az] ?_))))))))⟩
  have bh := at_join m (at_join m bg (wP b5 zl)) (wP b2 zl)
  have bm := Raw.row bw m (N := ((((List.take i s) ++ (List.replicate (((s).length + (vs).length) - i) ((0, 0, ([] : List UInt8)) : SpS)))).length)) zl zl bh
  exact ⟨_, u, bm, (fun g e => ac g (by rw [yX u]; exact e)), hc⟩
 intro cr
 refine nQ (zF (zZ (zB (wR (zG (zG (zG (vG ((s).length) ((vs).length) (L_slTot yT o ab ((s).length) c ((s).length + (vs).length) t zk ⟨.i64, zk⟩ zo (zI (nW (wR (zG (zG (zG (zG (vG i ((vs).length) (L_slRaw yT (.slice (some ⟨ab, 0, none⟩) ((s).length + (vs).length) c) ab 0 ((s).length + (vs).length) c (i + (vs).length) ((s).length + (vs).length) (by rw [Nat.zero_mul]) zk ⟨.i64, zk⟩ rfl zo zo zo ?_))))))))))))))))))
 have m : ∀ x, (encSpanS x).length = 3 := fun _ => rfl
 have hz := Row.raw r m zo
 obtain ⟨b1, bk, ck, a9, cl, ag, cm⟩ := hz
 have b0 := r.shape
 have z : b1 ≠ ab := rne_of a9 t l
 have y := z.symm
 refine L_overlaps yT (ga := b1) (gb := ab) (R := 4) Try.func127 zk zk zk zk 0 ((vs).length) bk ((0 + (i + (vs).length)) * 3) (((s).length + (vs).length) - (i + (vs).length)) (c - (i + (vs).length)) ag d z (by rw [d.size]; exact Nat.mul_pos zo (by decide)) ((zk : _ = aa).trans a9) zk (znt false (nQ (zT (yA (W_pre 8 9 1 zk zk zk zk zk zk zk (zY (zY (zY (qR i ((vs).length) zo zk zk (qM yT (.slice (some ⟨ab, 0, none⟩) ((s).length + (vs).length) c) ab 0 ((s).length + (vs).length) c (i + (vs).length) ((s).length + (vs).length) (by rw [Nat.zero_mul]) zk ⟨.i64, zk⟩ rfl zo zo zo (zY (zY (qM yT (.slice (some ⟨ab, 0, none⟩) ((s).length + (vs).length) c) ab 0 ((s).length + (vs).length) c i ((s).length + (vs).length) (by rw [Nat.zero_mul]) zk ⟨.i64, zk⟩ rfl zo zo zo (yM ?_))))))))))))))
 intro ci aj
 have hb := hb.trans (aj.mono hs)
 replace hs := Nat.le_trans hs (aj.size)
 refine yF 8 zk (yL 8 rfl ?_ rfl)
 replace d := Raw.below d aj
 refine L_copySelf (a := (0 + (i + (vs).length))) (p := (((s).length + (vs).length) - (i + (vs).length))) (c1 := (c - (i + (vs).length))) (b := (0 + i)) (q := (((s).length + (vs).length) - i)) (c2 := (c - i)) yT (List.drop i s) d (wP a5 zo) m zj zk zk zl zl ?_
 intro bp ao bz
 have bl := at_lo (a := (0 + (i + (vs).length))) (cs := List.flatMap encSpanS (List.drop i s)) ba zl (Raw.le d zo)
 have br := at_put (a := (0 + (i + (vs).length))) (ys := (List.drop i s)) m (Raw.le2 d zl)
 have j : World.grownBy ci bp (Value.ownBlock o) := by rw [yX t]; exact bz
 have hb := hb.grown j hs (fun k hk => by rw [yX t] at hk; cases hk; exact d.base)
 replace hs := Nat.le_trans hs j.size
 replace ag := Raw.below ag aj
 replace ag := ag.grown j (by rw [yX t]; exact fun e => y (Option.some.inj e))
 replace hc := (hc.trans2 (Ch.of_below aj) (fun _ h => h.elim)).trans2 (Ch.of_grown j) (fun k e => f k e)
 have r := (r.below aj).grown j l
 clear j
 refine zR ?_
 refine ⟨rfl, yS zk (zB (wR (zG (zG (L_slRaw yT (.slice (some ⟨ab, 0, none⟩) ((s).length + (vs).length) c) ab 0 ((s).length + (vs).length) c i ((s).length + (vs).length) (by rw [Nat.zero_mul]) zk ⟨.i64, zk⟩ rfl zo zo zo (zG (L_copyRd (a := (0 + i)) (p := (((s).length + (vs).length) - i)) (c1 := (c - i)) yT aa vs ao r.rd m zj zk zk zo zo ?_)))))))⟩
 intro ce b3 b4
 have bb := at_lo (a := (0 + i)) (cs := List.flatMap encSpanS vs) bl zl (Raw.le ao zo)
 have bo := at_hi (a := (0 + i)) (ys := vs) m br zo (Raw.le2 ao zo)
 have b6 := at_put (a := (0 + i)) (ys := vs) m (Raw.le2 ao zo)
 have j : World.grownBy bp ce (Value.ownBlock o) := by rw [yX t]; exact b4
 have hb := hb.grown j hs (fun k hk => by rw [yX t] at hk; cases hk; exact ao.base)
 replace hs := Nat.le_trans hs j.size
 replace ag := ag.grown j (by rw [yX t]; exact fun e => y (Option.some.inj e))
 replace hc := hc.trans2 (Ch.of_grown j) (fun k e => f k e)
 clear j
 refine nR (zG (zI (nQ (yB (zP (yJ [(.slice (some ⟨ab, 0, none⟩) ((s).length + (vs).length) c)] ?_))))))
 have bh := at_join m (at_join m bb (wP b6 zl)) (wP bo zl)
 have bm := Raw.row b3 m (N := ((s).length + (vs).length)) zl zl bh
 exact ⟨_, rfl, bm, (fun g e => f g (by rw [yX t]; exact e)), hc⟩
theorem c_replace_S (B_ : Nat) (o : Value) (s : List (Int × Int × List UInt8)) (i : Nat) (j : Nat) (u : Value) (vs : List (Int × Int × List UInt8)) (w : World) (hs0 : B_ ≤ w.heap.size) (an : Row w B_ 138 3 encSpanS o s) (f : Row w 0 138 3 encSpanS u vs) (n : Value.ownBlock u = none ∨ Value.ownBlock u ≠ Value.ownBlock o) (hij : i ≤ j) (hj : j ≤ s.length) (hl : s.length ≤ 4194304) (hv : vs.length ≤ 4194304) :
  Calls Try.prog 89 #[o, (N6 i), (N6 j), u] w (Ret fun v w' => ∃ q0 : Value, v = q0 ∧ Row w' B_ 138 3 encSpanS q0 (List.take i s ++ vs ++ List.drop j s) ∧ (∀ g, Value.ownBlock q0 = some g → w.heap.size ≤ g ∨ Value.ownBlock o = some g) ∧ Ch (fun k => Value.ownBlock o = some k) w w') := by
 refine wL 224 Try.func89 rfl ?_
 have hb := Below.refl B_ w
 have hs : B_ ≤ (World.heap w).size := hs0
 have hc := Ch.refl (fun k => Value.ownBlock o = some k) w
 have t : ∀ g, Value.ownBlock o = some g → (World.heap w).size ≤ g ∨ (fun k => Value.ownBlock o = some k) g := fun g h => .inr h
 refine wR (zI (nR (zG (zG (zG (L_slmid yT o ((s).length) i j (an.shape) zo zo zk ⟨.i64, zk⟩ ⟨.i64, zk⟩ ?_))))))
 intro d4
 refine nW (wR (zG (zG (nEq i j ?_ ?_))))
 ·intro h2
  refine nQ (zT (wR (zG (zG (zG (zc (c_insert_S B_ o s i u vs _ hs an f.mono0 n zo zo zo) ?_))))))
  rintro q3 w4 ⟨_, rfl, dk, dz, b7⟩
  have bj := dr_call hc dz t
  have hb := b7.below hb hs (fun k e => (World.ownsRow.lt an k e).1)
  replace hs := Nat.le_trans hs b7.size
  refine zI (nQ (yB (zP (yJ [q3] ?_))))
  have e0 : (List.take i s ++ vs ++ List.drop i s) = (List.take i s ++ vs ++ List.drop j s) := by (subst j; rfl)
  replace hc := hc.trans2 b7 (fun k e => t k e)
  exact ⟨_, rfl, dk.cast e0, bj, hc⟩
 intro h7
 refine nQ (zF (zZ (zB (yA (wR (zG (zG (vI Try.underlying134 (an.rd).len (nEq j ((s).length) ?_ ?_)))))))))
 ·intro h8
  refine nQ (zT (wR (zG (zG (L_sltoR yT o s i an zj zo zk ⟨.i64, zk⟩ ?_)))))
  intro cb aa a3
  have ab : ∀ g, Value.ownBlock cb = some g → (World.heap w).size ≤ g ∨ (fun k => Value.ownBlock o = some k) g := by rw [a3.own]; exact t
  have af := (by rw [a3.own]; exact n : Value.ownBlock u = none ∨ Value.ownBlock u ≠ Value.ownBlock cb); have bb := yW af
  refine zG (L_appPre yT B_ cb u (List.take i s) vs hs aa f.rd (by (simp only [List.length_append, List.length_take]; omega)) zj zj zk zk zk ?_)
  have ak := an.shape
  intro b1 ea bu bi bg b5
  have ba := room_app an a3 bu b5
  have bd := dr_app (D := (fun k => Value.ownBlock o = some k)) bg (by have h0 := hc.size; omega : (World.heap w).size ≤ (World.heap w).size) ab
  have ay := xR f bg af
  have hb := hb.tg hs bi aa
  replace hs := Nat.le_trans hs (bi.size)
  have aa := bu
  replace hc := hc.trans2 (Ch.of_grown bi) (fun k e => ab k e)
  have ab := bd; clear bd
  refine zI (nW (wR (zG (vI Try.underlying134 (aa.rd).len (zG (vI Try.underlying134 ak.len (nLt ((((List.take i s) ++ vs)).length) ((s).length) ?_ ?_)))))))
  ·intro d6
   refine nQ (zT (zW (zG (zG (vI Try.underlying134 (aa.rd).len (L_slfrom yT o ((s).length) ((((List.take i s) ++ vs)).length) ak zo zk ⟨.i64, zk⟩ ?_))))))
   intro co cp
   refine L_clearTail yT o b1 co ((List.take i s) ++ vs) cp ba aa zo zo ak (fun z hz => by cases hz; decide) zk ?_
   intro d2 c3 bt
   have aa := c3
   replace hs := Nat.le_trans hs bt.size
   refine nR (zG (zI (nQ (yB (zP (yJ [b1] ?_))))))
   have e0 : ((List.take i s) ++ vs) = (List.take i s ++ vs ++ List.drop j s) := by exact gep_tail zo
   replace hc := hc.trans2 (Ch.of_grown bt) (fun k e => t k e)
   exact ⟨_, rfl, aa.cast e0, ab, hc⟩
  intro d1
  refine nQ (zF (zZ (zB (wR (zG (zI (nQ (yB (zP (yJ [b1] ?_))))))))))
  have e0 : ((List.take i s) ++ vs) = (List.take i s ++ vs ++ List.drop j s) := by exact gep_tail zo
  exact ⟨_, rfl, aa.cast e0, ab, hc⟩
 intro d3
 refine nQ (zF (zZ (zB (yA ?_))))
 have r : ∀ x, (encSpanS x).length = 3 := fun _ => rfl
 have hz := Row.raw an r zo
 obtain ⟨y, c, dy, m, cl, d, bz⟩ := hz
 have ak := an.shape
 have bk := (at_mid r bz i zo).1
 have a4 := wP (at_mid r bz j zo).2 (Nat.zero_add _)
 refine yV zk zk (zY (zY (Lq_slTot yT o y ((s).length) c i m zk ⟨.i64, zk⟩ zo (Lq_len 134 138 i (.slice (some ⟨y, 0, none⟩) i c) rfl Try.underlying134 ⟨_, _, rfl⟩ zk (zY (Lq_len 134 138 (vs).length u rfl Try.underlying134 (f.rd).len zk (qR i ((vs).length) zo zk zk (zY (zY (qM yT o y 0 ((s).length) c j ((s).length) (by rw [Nat.zero_mul]; exact m) zk ⟨.i64, zk⟩ rfl zo zo zo (Lq_len 134 138 ((s).length - j) (.slice (some ⟨y, (0 + j) * 3, none⟩) ((s).length - j) (c - j)) rfl Try.underlying134 ⟨_, _, rfl⟩ zk (qR (i + (vs).length) ((s).length - j) zo zk zk (xA (yM ?_))))))))))))))
 intro dh ag
 have hb := hb.trans (ag.mono hs)
 replace hs := Nat.le_trans hs (ag.size)
 refine zB (yA (wR (zG (zG (L_cap 134 138 c o rfl Try.underlying134 ⟨_, _, m⟩ zk (nGt ((i + (vs).length) + ((s).length - j)) c ?_ ?_))))))
 ·intro eb
  have an := an.below ag
  refine nQ (zT (wR (zG (zG (L_sltoR yT o s i an zj zo zk ⟨.i64, zk⟩ ?_)))))
  intro bn az a5
  have b6 : ∀ g, Value.ownBlock bn = some g → (World.heap w).size ≤ g ∨ (fun k => Value.ownBlock o = some k) g := by rw [a5.own]; exact t
  have ap := (by rw [a5.own]; exact n : Value.ownBlock u = none ∨ Value.ownBlock u ≠ Value.ownBlock bn); have bc := yW ap
  refine zG (zG (zsb ((i + (vs).length) + ((s).length - j)) i ?_))
  have cy := samecap_val a5 m az
  refine L_appZeros (kq := .i64) (kn := .i64) yT Try.underlying3 ((0, 0, ([] : List UInt8)) : SpS) zk B_ bn (List.take i s) (((i + (vs).length) + ((s).length - j)) - i) c hs az zj cy.1 zo zl zo cy.2 zk zk zk ?_
  intro bm dm bx a1 aw 
  replace hc := hc.trans2 (Ch.of_below ag) (fun _ h => h.elim)
  have bd := dr_app (D := (fun k => Value.ownBlock o = some k)) aw (by have h0 := hc.size; omega : (World.heap w).size ≤ (World.heap dh).size) (dr_nil _)
  replace d := Raw.below d ag
  have bl := grow_ne d (zer_new bx aw zl)
  replace d := Raw.grown d a1 (by simp [Value.ownBlock])
  have cq := xR an aw (qD _)
  have f := f.below ag
  have ay := xR f aw (qD _)
  have bs := xR az aw (qD _)
  have hb := hb.grown a1 hs (fun k hk => by simp [Value.ownBlock] at hk)
  replace hc := hc.trans2 (Ch.of_grown a1) (fun k e => by simp [Value.ownBlock] at e)
  replace hs := Nat.le_trans hs (a1.size)
  have f := f.grown a1 (by cases h : Value.ownBlock _ <;> simp [Value.ownBlock])
  have au := ay
  have bf := bx
  have ao := bd; clear bd
  have r : ∀ x, (encSpanS x).length = 3 := fun _ => rfl
  have hz := Row.raw bf r zl
  obtain ⟨cj, a0, dr, ai, ca, a9, db⟩ := hz
  have cn := bf.shape
  have a7 := ca; simp only [List.length_append, List.length_take, List.length_replicate] at a7
  have b4 := (at_split r db).1
  have ac : cj ≠ y := fun e => bl (by rw [yX ai, e])
  have be := ac.symm
  refine zI (nR (zG (zG (L_slRaw yT bm cj 0 ((((List.take i s) ++ (List.replicate (((i + (vs).length) + ((s).length - j)) - i) ((0, 0, ([] : List UInt8)) : SpS)))).length) a0 i ((((List.take i s) ++ (List.replicate (((i + (vs).length) + ((s).length - j)) - i) ((0, 0, ([] : List UInt8)) : SpS)))).length) (by rw [Nat.zero_mul]; exact ai) zk ⟨.i64, zk⟩ rfl zl zo zo (zG (L_copyRd (a := (0 + i)) (p := ((((List.take i s) ++ (List.replicate (((i + (vs).length) + ((s).length - j)) - i) ((0, 0, ([] : List UInt8)) : SpS)))).length - i)) (c1 := (a0 - i)) yT u vs a9 f.rd r zj zk zk zl zo ?_))))))
  intro dw aq c4
  have ch := at_lo (a := (0 + i)) (cs := List.flatMap encSpanS vs) b4 zl (Raw.le a9 zo)
  have cv := at_put (a := (0 + i)) (ys := vs) r (Raw.le2 a9 zo)
  have l : World.grownBy dm dw (Value.ownBlock bm) := by rw [yX ai]; exact c4
  have hb := hb.grown l hs (fun k hk => by rw [yX ai] at hk; cases hk; exact a9.base)
  replace hs := Nat.le_trans hs l.size
  replace d := d.grown l (by rw [yX ai]; exact fun e => ac (Option.some.inj e))
  replace hc := hc.trans2 (Ch.of_grown l) (fun k e => ao k e)
  have f := f.grown l au
  clear l
  refine nW (W_pre 9 10 1 zk zk zk zk zk zk zk (zY (zY (zY (Lq_len 134 138 (vs).length u rfl Try.underlying134 (f.rd).len zk (qR i ((vs).length) zo zk zk (qM yT bm cj 0 ((((List.take i s) ++ (List.replicate (((i + (vs).length) + ((s).length - j)) - i) ((0, 0, ([] : List UInt8)) : SpS)))).length) a0 (i + (vs).length) ((((List.take i s) ++ (List.replicate (((i + (vs).length) + ((s).length - j)) - i) ((0, 0, ([] : List UInt8)) : SpS)))).length) (by rw [Nat.zero_mul]; exact ai) zk ⟨.i64, zk⟩ rfl zl zo zo (zY (zY (qM yT o y 0 ((s).length) c j ((s).length) (by rw [Nat.zero_mul]; exact m) zk ⟨.i64, zk⟩ rfl zo zo zo (yM ?_)))))))))))
  intro dn a2
  have hb := hb.trans (a2.mono hs)
  replace hs := Nat.le_trans hs (a2.size)
  refine yF 9 zk (yL 9 rfl ?_ rfl)
  replace d := Raw.below d a2
  replace aq := Raw.below aq a2
  refine L_copyRd (a := (0 + (i + (vs).length))) (p := ((((List.take i s) ++ (List.replicate (((i + (vs).length) + ((s).length - j)) - i) ((0, 0, ([] : List UInt8)) : SpS)))).length - (i + (vs).length))) (c1 := (a0 - (i + (vs).length))) yT (.slice (some ⟨y, (0 + j) * 3, none⟩) ((s).length - j) (c - j)) (List.drop j s) aq (at_rd d r (wP a4 zo) zl) r zj zk zk zl zl ?_
  intro dt de cw
  have cm := at_lo (a := (0 + (i + (vs).length))) (cs := List.flatMap encSpanS (List.drop j s)) ch zl (Raw.le aq zo)
  have cz := at_lo (a := (0 + (i + (vs).length))) (cs := List.flatMap encSpanS (List.drop j s)) cv zo (Raw.le aq zo)
  have dc := at_put (a := (0 + (i + (vs).length))) (ys := (List.drop j s)) r (Raw.le2 aq zl)
  have l : World.grownBy dn dt (Value.ownBlock bm) := by rw [yX ai]; exact cw
  have hb := hb.grown l hs (fun k hk => by rw [yX ai] at hk; cases hk; exact aq.base)
  replace hs := Nat.le_trans hs l.size
  replace d := d.grown l (by rw [yX ai]; exact fun e => ac (Option.some.inj e))
  replace hc := (hc.trans2 (Ch.of_below a2) (fun _ h => h.elim)).trans2 (Ch.of_grown l) (fun k e => ao k e)
  clear l
  refine zR ?_
  refine ⟨rfl, yS zk (zB (wR (zG (zI (nQ (yB (zP (yJ [bm] ?_))))))))⟩
  have bh := at_join r (at_join r cm (wP cz zl)) (wP dc zl)
  have bo := Raw.row de r (N := ((((List.take i s) ++ (List.replicate (((i + (vs).length) + ((s).length - j)) - i) ((0, 0, ([] : List UInt8)) : SpS)))).length)) zl zl bh
  exact ⟨_, ai, bo, (fun g e => ao g (by rw [yX ai]; exact e)), hc⟩
 intro ec
 have f := f.below ag
 refine nQ (zF (zZ (zB (wR (zG (zG (L_slTot yT o y ((s).length) c ((i + (vs).length) + ((s).length - j)) m zk ⟨.i64, zk⟩ zo (zI (nW (wR (zG (zG (vI Try.underlying134 (f.rd).len (vG i ((vs).length) (zG (nLe (i + (vs).length) j ?_ ?_))))))))))))))))
 ·intro d9
  replace d := Raw.below d ag
  refine nQ (zT (wR (zG (zG (L_slRaw yT (.slice (some ⟨y, 0, none⟩) ((i + (vs).length) + ((s).length - j)) c) y 0 ((i + (vs).length) + ((s).length - j)) c i ((i + (vs).length) + ((s).length - j)) (by rw [Nat.zero_mul]) zk ⟨.i64, zk⟩ rfl zo zo zo (zG (L_copyRd (a := (0 + i)) (p := (((i + (vs).length) + ((s).length - j)) - i)) (c1 := (c - i)) yT u vs d f.rd r zj zk zk zo zo ?_)))))))
  intro d0 av dj
  have b3 := at_lo (a := (0 + i)) (cs := List.flatMap encSpanS vs) bk zl (Raw.le d zo)
  have ck := at_hi (a := (0 + i)) (ys := vs) r a4 zo (Raw.le2 d zo)
  have c8 := at_put (a := (0 + i)) (ys := vs) r (Raw.le2 d zo)
  have l : World.grownBy dh d0 (Value.ownBlock o) := by rw [yX m]; exact dj
  have hb := hb.grown l hs (fun k hk => by rw [yX m] at hk; cases hk; exact d.base)
  replace hs := Nat.le_trans hs l.size
  replace hc := (hc.trans2 (Ch.of_below ag) (fun _ h => h.elim)).trans2 (Ch.of_grown l) (fun k e => t k e)
  have f := f.grown l n
  clear l
  refine nW (W_pre 9 10 1 zk zk zk zk zk zk zk (zY (zY (zY (Lq_len 134 138 (vs).length u rfl Try.underlying134 (f.rd).len zk (qR i ((vs).length) zo zk zk (qM yT (.slice (some ⟨y, 0, none⟩) ((i + (vs).length) + ((s).length - j)) c) y 0 ((i + (vs).length) + ((s).length - j)) c (i + (vs).length) ((i + (vs).length) + ((s).length - j)) (by rw [Nat.zero_mul]) zk ⟨.i64, zk⟩ rfl zo zo zo (zY (zY (qM yT o y 0 ((s).length) c j ((s).length) (by rw [Nat.zero_mul]; exact m) zk ⟨.i64, zk⟩ rfl zo zo zo (yM ?_)))))))))))
  intro dx a8
  have hb := hb.trans (a8.mono hs)
  replace hs := Nat.le_trans hs (a8.size)
  refine yF 9 zk (yL 9 rfl ?_ rfl)
  replace av := Raw.below av a8
  refine L_copySelf (a := (0 + (i + (vs).length))) (p := (((i + (vs).length) + ((s).length - j)) - (i + (vs).length))) (c1 := (c - (i + (vs).length))) (b := (0 + j)) (q := ((s).length - j)) (c2 := (c - j)) yT (List.drop j s) av (wP ck zo) r zj zk zk zl zl ?_
  intro dl b0 cu
  have b9 := at_lo (a := (0 + (i + (vs).length))) (cs := List.flatMap encSpanS (List.drop j s)) b3 zl (Raw.le av zo)
  have ct := at_lo (a := (0 + (i + (vs).length))) (cs := List.flatMap encSpanS (List.drop j s)) c8 zo (Raw.le av zo)
  have cr := at_put (a := (0 + (i + (vs).length))) (ys := (List.drop j s)) r (Raw.le2 av zl)
  have l : World.grownBy dx dl (Value.ownBlock o) := by rw [yX m]; exact cu
  have hb := hb.grown l hs (fun k hk => by rw [yX m] at hk; cases hk; exact av.base)
  replace hs := Nat.le_trans hs l.size
  replace hc := (hc.trans2 (Ch.of_below a8) (fun _ h => h.elim)).trans2 (Ch.of_grown l) (fun k e => t k e)
  clear l
  refine zR ?_
  refine ⟨rfl, yS zk (zB (wR (zG (zG (L_slfrom yT o ((s).length) ((i + (vs).length) + ((s).length - j)) ak zo zk ⟨.i64, zk⟩ ?_)))))⟩
  intro dg c7
  refine L_clearRaw (α := Int × Int × List UInt8) (enc := encSpanS) (lo := ((i + (vs).length) + ((s).length - j))) yT o dg m c7 b0 zo cl (fun z hz => by cases hz; decide) zk ?_
  intro dv ds da a6 c0
  have cg := a6 _ _ zl b9
  have c6 := a6 _ _ zo ct
  have dd := a6 _ _ zl cr
  have l : World.grownBy dl dv (Value.ownBlock o) := by rw [yX m]; exact c0
  have hb := hb.grown l hs (fun k hk => by rw [yX m] at hk; cases hk; exact b0.base)
  replace hs := Nat.le_trans hs l.size
  replace hc := hc.trans2 (Ch.of_grown l) (fun k e => t k e)
  clear l
  refine nR (zG (zI (nQ (yB (zP (yJ [(.slice (some ⟨y, 0, none⟩) ((i + (vs).length) + ((s).length - j)) c)] ?_))))))
  have bh := at_join r (at_join r cg (wP c6 zl)) (wP dd zl)
  have bo := Raw.row da r (N := ((i + (vs).length) + ((s).length - j))) zl zl bh
  exact ⟨_, rfl, bo, (fun g e => t g (by rw [yX m]; exact e)), hc⟩
 intro d7
 refine nQ (zF (zZ (zB (yA (wR (zG (zG (zG (vI Try.underlying134 (f.rd).len (vG i ((vs).length) (L_slRaw yT (.slice (some ⟨y, 0, none⟩) ((i + (vs).length) + ((s).length - j)) c) y 0 ((i + (vs).length) + ((s).length - j)) c (i + (vs).length) ((i + (vs).length) + ((s).length - j)) (by rw [Nat.zero_mul]) zk ⟨.i64, zk⟩ rfl zo zo zo (zG ?_))))))))))))
 have r : ∀ x, (encSpanS x).length = 3 := fun _ => rfl
 have hz := Row.raw f r zo
 obtain ⟨c9, b8, du, bw, dq, ah, dp⟩ := hz
 have c5 := f.shape
 have ax : c9 ≠ y := rne_of bw m n
 have ae := ax.symm
 replace d := Raw.below d ag
 refine L_overlaps yT (ga := y) (gb := c9) (R := 4) Try.func127 zk zk zk zk ((0 + (i + (vs).length)) * 3) (((i + (vs).length) + ((s).length - j)) - (i + (vs).length)) (c - (i + (vs).length)) 0 ((vs).length) b8 d ah ae (by rw [ah.size]; exact Nat.mul_pos zo (by decide)) zk ((zk : _ = u).trans bw) (znt false (nQ (zT (yA (W_pre 9 10 1 zk zk zk zk zk zk zk (zY (zY (zY (Lq_len 134 138 (vs).length u rfl Try.underlying134 (f.rd).len zk (qR i ((vs).length) zo zk zk (qM yT (.slice (some ⟨y, 0, none⟩) ((i + (vs).length) + ((s).length - j)) c) y 0 ((i + (vs).length) + ((s).length - j)) c (i + (vs).length) ((i + (vs).length) + ((s).length - j)) (by rw [Nat.zero_mul]) zk ⟨.i64, zk⟩ rfl zo zo zo (zY (zY (qM yT o y 0 ((s).length) c j ((s).length) (by rw [Nat.zero_mul]; exact m) zk ⟨.i64, zk⟩ rfl zo zo zo (yM ?_)))))))))))))))
 intro df am
 have hb := hb.trans (am.mono hs)
 replace hs := Nat.le_trans hs (am.size)
 refine yF 9 zk (yL 9 rfl ?_ rfl)
 replace d := Raw.below d am
 refine L_copySelf (a := (0 + (i + (vs).length))) (p := (((i + (vs).length) + ((s).length - j)) - (i + (vs).length))) (c1 := (c - (i + (vs).length))) (b := (0 + j)) (q := ((s).length - j)) (c2 := (c - j)) yT (List.drop j s) d (wP a4 zo) r zj zk zk zl zl ?_
 intro bv ar cd
 have bq := at_lo (a := (0 + (i + (vs).length))) (cs := List.flatMap encSpanS (List.drop j s)) bk zl (Raw.le d zo)
 have ce := at_put (a := (0 + (i + (vs).length))) (ys := (List.drop j s)) r (Raw.le2 d zl)
 have l : World.grownBy df bv (Value.ownBlock o) := by rw [yX m]; exact cd
 have hb := hb.grown l hs (fun k hk => by rw [yX m] at hk; cases hk; exact d.base)
 replace hs := Nat.le_trans hs l.size
 replace ah := Raw.below ah am
 replace ah := ah.grown l (by rw [yX m]; exact fun e => ae (Option.some.inj e))
 replace hc := ((hc.trans2 (Ch.of_below ag) (fun _ h => h.elim)).trans2 (Ch.of_below am) (fun _ h => h.elim)).trans2 (Ch.of_grown l) (fun k e => t k e)
 have f := (f.below am).grown l n
 clear l
 refine zR ?_
 refine ⟨rfl, yS zk (zB (wR (zG (zG (L_slRaw yT (.slice (some ⟨y, 0, none⟩) ((i + (vs).length) + ((s).length - j)) c) y 0 ((i + (vs).length) + ((s).length - j)) c i ((i + (vs).length) + ((s).length - j)) (by rw [Nat.zero_mul]) zk ⟨.i64, zk⟩ rfl zo zo zo (zG (L_copyRd (a := (0 + i)) (p := (((i + (vs).length) + ((s).length - j)) - i)) (c1 := (c - i)) yT u vs ar f.rd r zj zk zk zo zo ?_)))))))⟩
 intro di cf ci
 have br := at_lo (a := (0 + i)) (cs := List.flatMap encSpanS vs) bq zl (Raw.le ar zo)
 have b2 := at_hi (a := (0 + i)) (ys := vs) r ce zo (Raw.le2 ar zo)
 have cc := at_put (a := (0 + i)) (ys := vs) r (Raw.le2 ar zo)
 have l : World.grownBy bv di (Value.ownBlock o) := by rw [yX m]; exact ci
 have hb := hb.grown l hs (fun k hk => by rw [yX m] at hk; cases hk; exact ar.base)
 replace hs := Nat.le_trans hs l.size
 replace ah := ah.grown l (by rw [yX m]; exact fun e => ae (Option.some.inj e))
 replace hc := hc.trans2 (Ch.of_grown l) (fun k e => t k e)
 clear l
 refine nR (zG (zI (nQ (yB (zP (yJ [(.slice (some ⟨y, 0, none⟩) ((i + (vs).length) + ((s).length - j)) c)] ?_))))))
 have bh := at_join r (at_join r br (wP cc zl)) (wP b2 zl)
 have bo := Raw.row cf r (N := ((i + (vs).length) + ((s).length - j))) zl zl bh
 exact ⟨_, rfl, bo, (fun g e => t g (by rw [yX m]; exact e)), hc⟩
end Go.Proofs.Ythjgnnfonofgkaa
end

/- === WgnS === -/
section
/- Walks, written by my program walk.py out of the specification gnS.py: each theorem says what one function returns and that it leaves memory as it was. -/
namespace Go.Proofs.Ythjgnnfonofgkaa
open Go Go.RowKit Go.FK
set_option maxHeartbeats 4000000
set_option maxRecDepth 100000
theorem eqagg138 (a0 : Int) (a1 : Int) (a2 : List UInt8) (c0 : Int) (c1 : Int) (c2 : List UInt8) (w : World) : (Op.equalIn 10000 138 (.agg #[.int .i32 a0, .int .i32 a1, S a2]) (.agg #[.int .i32 c0, .int .i32 c1, S c2])).run Try.prog w = .ok (a0 == c0 && a1 == c1 && a2 == c2) w := by
 have i : Try.prog.underlying 138 = some (.struct (Try.prog.fieldsOf 138)) := by kernel_rfl
 have g : Try.prog.stoodInHeld 138 = false := by kernel_rfl
 rw [show (10000 : Nat) = 9999 + 1 from rfl, run_equalIn_agg w 9999 138 _ _ i g]
 simp only [Program.fieldsOf, Try.underlying138]
 have f := Try.isAgg9
 have e := Try.sizeOf9
 have b := Try.underlying9
 have d := Try.isAgg21
 have c := Try.sizeOf21
 have a := Try.underlying21
 try simp only [S]
 go_simp
 by_cases h : a0 = c0 <;> by_cases k : a1 = c1 <;> by_cases j : a2 = c2 <;> simp [h, k, j]
theorem c_cut_S (q : Nat) (n : Value) (xs : List (Int × Int × List UInt8)) (lo : Int) (hi : Int) (B_ : Nat) (w : World) (hs0 : B_ ≤ w.heap.size) (l : w.heap[q]? = some (.cells [n, (.bool true)].toArray 136 (0, 0))) (ch : B_ ≤ q) (a : Row w B_ 138 3 encSpanS n xs) (hr : RiseG 0 xs) (hlo : -2147483648 ≤ lo ∧ lo ≤ 2147483647) (hhi : -2147483648 ≤ hi ∧ hi ≤ 2147483647) :
  Calls Try.prog 87 #[(pt q 0), (Value.agg #[(I3 lo), (I3 hi)])] w (Ret fun v w' => ∃ q0 : Value, v = (.tuple #[(I6 (cutN xs lo hi)), (I6 (layE lo hi))]) ∧ w'.heap[q]? = some (.cells [q0, (.bool true)].toArray 136 (0, 0)) ∧ Row w' B_ 138 3 encSpanS q0 (cutM xs lo hi) ∧ (∀ g, Value.ownBlock q0 = some g → w.heap.size ≤ g ∨ (Dm q n) g) ∧ Ch (Dm q n) w w') := by
 refine wL 111 Try.func87 rfl ?_
 have hb := Below.refl B_ w
 have u : B_ ≤ (World.heap w).size := hs0
 have hc := Ch.refl (Dm q n) w
 have bf : (World.heap w).size ≤ q ∨ (Dm q n) q := .inr (.inl rfl)
 have af : ∀ g, Value.ownBlock n = some g → (World.heap w).size ≤ g ∨ (Dm q n) g := fun g h => .inr (.inr h)
 have c0 := hr.len
 refine wR (zN [(I3 lo), (I3 hi)] 29 ?_)
 intro b1 w2 az
 have b8 : B_ ≤ b1 := by rw [az.num]; exact u
 have b6 : (World.heap w).size ≤ b1 ∨ (Dm q n) b1 := .inl (by rw [az.num]; exact hc.size)
 have hb := hb.trans (az.below.mono u)
 replace u := Nat.le_trans u (az.below.size)
 have c := az.here
 have l := zA l az.below
 have a := a.below az.below
 refine zI (zI (nW (yC (wR (zG (zc (qO q n xs _ l a.rd) ?_))))))
 replace hc := hc.trans2 (Ch.of_below az.below) (fun _ h => h.elim)
 rintro _ w4 ⟨rfl, ay⟩
 have hb := hb.trans (ay.mono u)
 replace u := Nat.le_trans u (ay.size)
 have c := zA c ay
 refine zI (nQ (zF (wR (wG c (zc (c_points_May lo hi _ ) ?_)))))
 replace hc := hc.trans2 (Ch.of_below ay) (fun _ h => h.elim)
 rintro _ w7 ⟨rfl, aw⟩
 have hb := hb.trans (aw.mono u)
 replace u := Nat.le_trans u (aw.size)
 refine xX (mayF lo hi) ?_ ?_
 ·intro b5
  have co := mayG_b b5
  have l := zA (zA l ay) aw
  have c := zA c aw
  have a := (a.below ay).below aw
  refine znt true (zI (nQ (zF (zZ (zS (zB (wR (zI (nR (zG (wB 0 c rfl (zc (c_from_S q n xs lo _ l a.rd (by exact hr) zo) ?_))))))))))))
  replace hc := hc.trans2 (Ch.of_below aw) (fun _ h => h.elim)
  rintro _ cv ⟨rfl, au⟩
  have hb := hb.trans (au.mono u)
  replace u := Nat.le_trans u (au.size)
  have := fromG_le xs lo
  refine zI (nR (zG (zI (nR (zI (nW (yC ?_)))))))
  replace hc := hc.trans2 (Ch.of_below au) (fun _ h => h.elim)
  have l := zA l au
  have c := zA c au
  have a := a.below au
  refine wH (fun m s0 w0 => ∃ (j : Nat) (z : Int) (ys : List SpS) (an : Value), (m = xs.length - j) ∧ (s0.ds = []) ∧ ([0, 3, 4, 5, 7, 6, 8, 9].map s0.f = [(pt q 0), (pt b1 0), (I6 0), (I6 0), (N6 (fromG xs lo)), (I6 z), (N6 j), an]) ∧ (Row w0 B_ 138 3 encSpanS n xs) ∧ (Row w0 B_ 138 3 encSpanS an ys) ∧ (w0.heap[q]? = some (.cells [n, (.bool true)].toArray 136 (0, 0))) ∧ (w0.heap[b1]? = some (.cells [(I3 lo), (I3 hi)].toArray 29 (0, 0))) ∧ (Value.ownBlock n = none ∨ Value.ownBlock n ≠ Value.ownBlock an) ∧ (Below B_ w w0) ∧ (Ch (Dm q n) w w0) ∧ (∀ g, Value.ownBlock an = some g → (World.heap w).size ≤ g ∨ (Dm q n) g) ∧ (B_ ≤ w0.heap.size) ∧ (cutI lo hi xs j z ys)) _ ⟨(fromG xs lo), 0, [], (.slice none 0 0), rfl, zk, zk, a, Row.nil _ _ _ _ _, l, c, qD _, hb, hc, dr_nil _, u, cutI_zero⟩ ?_
  rintro cx cu cr ⟨j, z, ys, an, hm, a9, b3, a, r, l, c, b, hb, hc, s, u, i1⟩
  refine wF b3 ?_
  have p := yW b
  have cf := i1.2.2.2.2
  have ct := i1.2.1
  have ck := i1.1
  refine yA (yA (yV zk zk (zY (zY (zV (pt q 0) zf (zV (pt q 0) zf (zX q 0 n zk zf (zK l rfl) (Lq_len 134 138 (xs).length n rfl Try.underlying134 (a.rd).len zk (Lq_cmp .i64 ((j : Nat) : Int) (((xs).length : Nat) : Int) (j < (xs).length) rfl (cmpN_lt j ((xs).length)) zk zk ?_ ?_)))))))))
  ·intro b0
   replace b0 : j < (xs).length := by omega
   refine zY (qw (zY (qw (zV (pt q 0) zf (qw (zV (pt q 0) zf (qw (zX q 0 n zk zf (zK l rfl) (qw (zY (qw ?_)))))))))))
   have hz := yN xs j zo; obtain ⟨d, bc⟩ := hz
   have hz := (a.rd).at (k := 3) zj bc
   obtain ⟨bg, a1, bu, bm⟩ := hz
   have cd := hr.at bc
   refine yO (k := .i64) n j _ bg a1 yT bu zo zk zk (qw (zV (pt bg (a1 + j * 3)) zf (qw (zX bg (a1 + j * 3) (I3 d.1) zk zf (bm 0 _ rfl) (qw (zV (pt b1 1) zf (qw (zX b1 1 (I3 hi) zk zf (zK c rfl) (qw (Lq_cmp .i32 d.1 hi (d.1 ≤ hi) rfl (cmp_le d.1 hi) zk zk ?_ ?_))))))))))
   ·intro bw
    replace bw : d.1 ≤ hi := by omega
    refine qT (yM ?_)
    intro cq am
    have hb := hb.trans (am.mono u)
    replace u := Nat.le_trans u (am.size)
    have l := zA l am
    refine zB (zT (zZ (zB (yA (yC (wR (zG (zr (pt q 0) (wB 0 l rfl (zG ?_))))))))))
    have a := a.below am
    refine zEA a.rd yT j bc [(I3 d.1), (I3 d.2.1), (S d.2.2)] rfl fun _ => (zN [(I3 0), (I3 0), (S [])] 138 ?_)
    intro bi cj y
    have a2 : B_ ≤ bi := by rw [y.num]; exact u
    replace hc := hc.trans2 (Ch.of_below am) (fun _ h => h.elim)
    have av : (World.heap w).size ≤ bi ∨ (Dm q n) bi := .inl (by rw [y.num]; exact hc.size)
    have ac := a.new_ne y
    have r := r.below am
    have i := r.new_ne y
    have hb := hb.trans (y.below.mono u)
    replace u := Nat.le_trans u (y.below.size)
    have o := y.here
    refine qC [(I3 d.1), (I3 d.2.1), (S d.2.2)] o ?_
    intro bt aa
    replace u := Nat.le_trans u (Nat.le_of_eq aa.size.symm)
    have l := zA l y.below
    have l := zC l aa (zH l o zi)
    have c := zA (zA c am) y.below
    have c := zC c aa (zH c o zi)
    have o := aa.here
    refine nR (zG (wB 1 o rfl (wB 1 c rfl (L_min (k := .i32) d.2.1 hi zk zk (wB 0 o rfl (wB 0 c rfl (L_max (k := .i32) d.1 lo zk zk (xL (min d.2.1 hi) (max d.1 lo) ((min d.2.1 hi) - (max d.1 lo)) rfl zk zk (xD _ zh zh) (L_conv (k := .i32) ((min d.2.1 hi) - (max d.1 lo)) ((min d.2.1 hi) - (max d.1 lo)) zk Try.underlying3 zk (xH _ zo zo) (xL ((min d.2.1 hi) - (max d.1 lo)) 1 (((min d.2.1 hi) - (max d.1 lo)) + 1) rfl zk zk (xH _ zh zh) (xL z (((min d.2.1 hi) - (max d.1 lo)) + 1) (z + (((min d.2.1 hi) - (max d.1 lo)) + 1)) rfl zk zk (xH _ zh zh) (zI (nW (wR (wB 0 o rfl (wB 0 c rfl (zLt .i32 d.1 lo ?_ ?_)))))))))))))))))
    ·intro cz
     have r := (r.below y.below).wrote aa i
     refine nQ (zT (zW (zG (wB 0 o rfl (wB 0 c rfl (xL lo 1 (lo - 1) rfl zk zk (xD _ zh zh) (wB 2 o rfl (zr (Value.agg #[(I3 d.1), (I3 (lo - 1)), (S d.2.2)]) (L_app yT B_ an ys (d.1, (lo - 1), d.2.2) u r zo zk rfl rfl zk rfl zk zk ?_)))))))))
     intro bn b4 bo aj a0
     replace hc := (hc.trans2 (Ch.of_below y.below) (fun _ h => h.elim)).trans2 (Ch.of_wrote aa) (fun k e => e ▸ av)
     have ax := dr_app (D := (Dm q n)) a0 (by have h0 := hc.size; omega : (World.heap w).size ≤ (World.heap bt).size + 1) s
     have ad := ownb_app a0 i (yD o)
     have a := (a.below y.below).wrote aa ac
     have t := vA a a0 b
     have hb := hb.trans (aa.below a2)
     have hb := hb.tg u aj r
     replace u := Nat.le_trans u (aj.size)
     have l := yI l aj (r.ne l zi)
     have c := yI c aj (r.ne c zi)
     have o := yI o aj i
     have i := ad
     have a := a.grown aj b
     have b := t; have p := yW t
     have r := bo
     replace hc := hc.trans2 (Ch.of_grown aj) (fun k e => s k e)
     have s := ax; clear ax
     refine zI (nR (wB 1 o rfl (wB 1 c rfl (zGt .i32 d.2.1 hi ?_ ?_))))
     ·intro cb
      refine nQ (zT (zW (zG (wB 1 c rfl (xL hi 1 (hi + 1) rfl zk zk (xD _ zh zh) (wB 1 o rfl (wB 2 o rfl (zr (Value.agg #[(I3 (hi + 1)), (I3 d.2.1), (S d.2.2)]) (L_app yT B_ bn (ys ++ [(d.1, (lo - 1), d.2.2)]) ((hi + 1), d.2.1, d.2.2) u r (by (simp only [List.length_append, List.length_cons, List.length_nil] <;> omega)) zk rfl rfl zk rfl zk zk ?_)))))))))
      intro b2 c1 br ap a3
      have ax := dr_app (D := (Dm q n)) a3 (by have h0 := hc.size; omega : (World.heap w).size ≤ (World.heap b4).size + 1) s
      have ad := ownb_app a3 i (yD o)
      have t := vA a a3 b
      have hb := hb.tg u ap r
      replace u := Nat.le_trans u (ap.size)
      have l := yI l ap (r.ne l zi)
      have c := yI c ap (r.ne c zi)
      have i := ad
      have a := a.grown ap b
      have b := t; have p := yW t
      have r := br
      replace hc := hc.trans2 (Ch.of_grown ap) (fun k e => s k e)
      have s := ax; clear ax
      refine zI (zR (zS (zB (zW (zG (vG j 1 (zI (zR (zB ⟨_, zo, (j + 1), (z + (((min d.2.1 hi) - (max d.1 lo)) + 1)), ((ys ++ [(d.1, (lo - 1), d.2.2)]) ++ [((hi + 1), d.2.1, d.2.2)]), b2, rfl, a9, zk, a, r, l, c, b, hb, hc, s, u, ?_⟩)))))))))
      exact cut_11 hr zo i1 za zo zo zo zo
     intro cs
     refine nQ (zF (zZ (zS (zB (zW (zG (vG j 1 (zI (zR (zB ⟨_, zo, (j + 1), (z + (((min d.2.1 hi) - (max d.1 lo)) + 1)), (ys ++ [(d.1, (lo - 1), d.2.2)]), bn, rfl, a9, zk, a, r, l, c, b, hb, hc, s, u, ?_⟩))))))))))
     exact cut_10 hr zo i1 za zo zo zo zo
    intro cp
    refine nQ (zF (zZ (zB (wR (wB 1 o rfl (wB 1 c rfl (zGt .i32 d.2.1 hi ?_ ?_)))))))
    ·intro cy
     have r := (r.below y.below).wrote aa i
     refine nQ (zT (zW (zG (wB 1 c rfl (xL hi 1 (hi + 1) rfl zk zk (xD _ zh zh) (wB 1 o rfl (wB 2 o rfl (zr (Value.agg #[(I3 (hi + 1)), (I3 d.2.1), (S d.2.2)]) (L_app yT B_ an ys ((hi + 1), d.2.1, d.2.2) u r zo zk rfl rfl zk rfl zk zk ?_)))))))))
     intro bz cm bq ar a4
     replace hc := (hc.trans2 (Ch.of_below y.below) (fun _ h => h.elim)).trans2 (Ch.of_wrote aa) (fun k e => e ▸ av)
     have ax := dr_app (D := (Dm q n)) a4 (by have h0 := hc.size; omega : (World.heap w).size ≤ (World.heap bt).size + 1) s
     have ad := ownb_app a4 i (yD o)
     have a := (a.below y.below).wrote aa ac
     have t := vA a a4 b
     have hb := hb.trans (aa.below a2)
     have hb := hb.tg u ar r
     replace u := Nat.le_trans u (ar.size)
     have l := yI l ar (r.ne l zi)
     have c := yI c ar (r.ne c zi)
     have i := ad
     have a := a.grown ar b
     have b := t; have p := yW t
     have r := bq
     replace hc := hc.trans2 (Ch.of_grown ar) (fun k e => s k e)
     have s := ax; clear ax
     refine zI (zR (zS (zB (zW (zG (vG j 1 (zI (zR (zB ⟨_, zo, (j + 1), (z + (((min d.2.1 hi) - (max d.1 lo)) + 1)), (ys ++ [((hi + 1), d.2.1, d.2.2)]), bz, rfl, a9, zk, a, r, l, c, b, hb, hc, s, u, ?_⟩)))))))))
     exact cut_01 hr zo i1 za zo zo zo zo
    intro cw
    refine nQ (zF (zZ (zS (zB (zW (zG (vG j 1 (zI (zR ?_)))))))))
    have hb := hb.trans (aa.below a2)
    replace hc := (hc.trans2 (Ch.of_below y.below) (fun _ h => h.elim)).trans2 (Ch.of_wrote aa) (fun k e => e ▸ av)
    have a := (a.below y.below).wrote aa ac
    have r := (r.below y.below).wrote aa i
    exact zB ⟨_, zo, (j + 1), (z + (((min d.2.1 hi) - (max d.1 lo)) + 1)), ys, an, rfl, a9, zk, a, r, l, c, b, hb, hc, s, u, cut_00 hr zo i1 za zo zo zo zo⟩
   intro bv
   replace bv : hi < d.1 := by omega
   refine qT (yM ?_)
   intro ce al
   have hb := hb.trans (al.mono u)
   replace u := Nat.le_trans u (al.size)
   have l := zA l al
   have a := a.below al
   have r := r.below al
   refine zB (zF (yZ (yE (yE (yP (zB (wR (zG (zG (zr (pt q 0) (wB 0 l rfl (zG (zG (zG (zc (c_replace_S B_ n xs (fromG xs lo) j an ys _ u a r.mono0 p zo zo zo zo) ?_)))))))))))))))
   replace hc := hc.trans2 (Ch.of_below al) (fun _ h => h.elim)
   rintro bl cl ⟨_, rfl, ai, bs, aq⟩
   have ba := dr_call hc bs af
   have hb := aq.below hb u (fun k e => (World.ownsRow.lt a k e).1)
   replace u := Nat.le_trans u aq.size
   have ak := wS l aq (a.ne l zi)
   have c := zA c al
   have be := wS c aq (a.ne c zi)
   have bh := r.ch_row aq p
   have l := ak; clear ak
   refine zr (pt q 0) (zr (pt q 0) (yQ q 0 bl [n, (.bool true)] [bl, (.bool true)] 136 zk zk ai.one zk l zi rfl ?_))
   intro ci a6
   replace u := Nat.le_trans u (Nat.le_of_eq a6.size.symm)
   have ai := ai.wrote a6 (ai.ne l zi)
   have l := a6.here
   refine nR (zG (zI (zI (nQ (yB (yJ [(I6 z), (I6 0)] (hd := a9) ?_))))))
   have hE : ((z : Int) = (cutN xs lo hi)) ∧ ((0 : Int) = (layE lo hi)) ∧ ((List.take (fromG xs lo) xs ++ ys ++ List.drop j xs) = (cutM xs lo hi)) := ⟨(by (rw [cutN, if_neg (tnf za)]; first | exact (cutI_end i1 zo).2 | exact (cutI_stop hr zo i1 za zo).2)), (by (rw [layE, if_neg (tnf za)]; done)), (by (rw [cutM, if_neg (tnf za)]; first | exact (cutI_end i1 zo).1 | exact (cutI_stop hr zo i1 za zo).1))⟩
   replace hc := (hc.trans2 aq (fun k e => af k e)).trans2 (Ch.of_wrote a6) (fun k e => e ▸ bf)
   exact ⟨_, qP (e6 hE.1) (e6 hE.2.1), l, ai.cast hE.2.2, ba, hc⟩
  intro b7
  replace b7 : (xs).length ≤ j := by omega
  refine zY (qs (qs (qs (qs (qs (qs (qs (qs (qs (qs (qs (qF (yM ?_)))))))))))))
  intro cc ag
  have hb := hb.trans (ag.mono u)
  replace u := Nat.le_trans u (ag.size)
  have l := zA l ag
  have a := a.below ag
  have r := r.below ag
  refine zB (zF (yZ (yE (yE (yP (zB (wR (zG (zG (zr (pt q 0) (wB 0 l rfl (zG (zG (zG (zc (c_replace_S B_ n xs (fromG xs lo) j an ys _ u a r.mono0 p zo zo zo zo) ?_)))))))))))))))
  replace hc := hc.trans2 (Ch.of_below ag) (fun _ h => h.elim)
  rintro bk cg ⟨_, rfl, ah, bp, ao⟩
  have bb := dr_call hc bp af
  have hb := ao.below hb u (fun k e => (World.ownsRow.lt a k e).1)
  replace u := Nat.le_trans u ao.size
  have ak := wS l ao (a.ne l zi)
  have c := zA c ag
  have be := wS c ao (a.ne c zi)
  have bh := r.ch_row ao p
  have l := ak; clear ak
  refine zr (pt q 0) (zr (pt q 0) (yQ q 0 bk [n, (.bool true)] [bk, (.bool true)] 136 zk zk ah.one zk l zi rfl ?_))
  intro cn a8
  replace u := Nat.le_trans u (Nat.le_of_eq a8.size.symm)
  have ah := ah.wrote a8 (ah.ne l zi)
  have l := a8.here
  refine nR (zG (zI (zI (nQ (yB (yJ [(I6 z), (I6 0)] (hd := a9) ?_))))))
  have hE : ((z : Int) = (cutN xs lo hi)) ∧ ((0 : Int) = (layE lo hi)) ∧ ((List.take (fromG xs lo) xs ++ ys ++ List.drop j xs) = (cutM xs lo hi)) := ⟨(by (rw [cutN, if_neg (tnf za)]; first | exact (cutI_end i1 zo).2 | exact (cutI_stop hr zo i1 za zo).2)), (by (rw [layE, if_neg (tnf za)]; done)), (by (rw [cutM, if_neg (tnf za)]; first | exact (cutI_end i1 zo).1 | exact (cutI_stop hr zo i1 za zo).1))⟩
  replace hc := (hc.trans2 ao (fun k e => af k e)).trans2 (Ch.of_wrote a8) (fun k e => e ▸ bf)
  exact ⟨_, qP (e6 hE.1) (e6 hE.2.1), l, ah.cast hE.2.2, bb, hc⟩
 intro ca
 refine znt false (zI (nQ (zT (wR (zI (zI (nQ (yB (yG (zP (yJ [(I6 0), (I6 41)] ?_)))))))))))
 have hE : ((0 : Int) = (cutN xs lo hi)) ∧ ((41 : Int) = (layE lo hi)) ∧ (xs = (cutM xs lo hi)) := ⟨(by (rw [cutN, if_pos za]; done)), (by (rw [layE, if_pos za]; done)), (by (rw [cutM, if_pos za]; done))⟩
 replace hc := hc.trans2 (Ch.of_below aw) (fun _ h => h.elim)
 have l := zA (zA l ay) aw
 have a := (a.below ay).below aw
 exact ⟨_, qP (e6 hE.1) (e6 hE.2.1), l, a.cast hE.2.2, af, hc⟩
theorem qY (l : Nat) (t : Value) (xs : List (Int × Int × List UInt8)) (lo : Int) (hi : Int) (val : List UInt8) (B_ : Nat) (w : World) (hs0 : B_ ≤ w.heap.size) (j : w.heap[l]? = some (.cells [t, (.bool true)].toArray 136 (0, 0))) (cn : B_ ≤ l) (ac : Row w B_ 138 3 encSpanS t xs) (hr : RiseG 0 xs) (hlo : -2147483648 ≤ lo ∧ lo ≤ 2147483647) (hhi : -2147483648 ≤ hi ∧ hi ≤ 2147483647) :
  Calls Try.prog 45 #[(pt l 0), (Value.agg #[(I3 lo), (I3 hi)]), (S val)] w (Ret fun v w' => ∃ q0 : Value, v = (I6 (layE lo hi)) ∧ w'.heap[l]? = some (.cells [q0, (.bool true)].toArray 136 (0, 0)) ∧ Row w' B_ 138 3 encSpanS q0 (layF eqS xs lo hi val) ∧ (∀ g, Value.ownBlock q0 = some g → w.heap.size ≤ g ∨ (Dm l t) g) ∧ Ch (Dm l t) w w') := by
 refine wL 128 Try.func45 rfl ?_
 have r := Below.refl B_ w
 have n : B_ ≤ (World.heap w).size := hs0
 have o := Ch.refl (Dm l t) w
 have bk : (World.heap w).size ≤ l ∨ (Dm l t) l := .inr (.inl rfl)
 have a6 : ∀ g, Value.ownBlock t = some g → (World.heap w).size ≤ g ∨ (Dm l t) g := fun g h => .inr (.inr h)
 have d3 := hr.len
 have bs := cutF_rise (lo := lo) (hi := hi) hr
 have di := bs.len
 refine wR (zN [(I3 lo), (I3 hi)] 29 ?_)
 intro b1 w2 ba
 have c8 : B_ ≤ b1 := by rw [ba.num]; exact n
 have c0 : (World.heap w).size ≤ b1 ∨ (Dm l t) b1 := .inl (by rw [ba.num]; exact o.size)
 have r := r.trans (ba.below.mono n)
 replace n := Nat.le_trans n (ba.below.size)
 have d := ba.here
 have j := zA j ba.below
 have ac := ac.below ba.below
 refine zI (nW (yC (wR (zG (zc (qO l t xs _ j ac.rd) ?_)))))
 replace o := o.trans2 (Ch.of_below ba.below) (fun _ h => h.elim)
 rintro _ w4 ⟨rfl, a9⟩
 have r := r.trans (a9.mono n)
 replace n := Nat.le_trans n (a9.size)
 have d := zA d a9
 refine zI (nQ (zF (wR (wG d (zc (c_points_May lo hi _ ) ?_)))))
 replace o := o.trans2 (Ch.of_below a9) (fun _ h => h.elim)
 rintro _ w7 ⟨rfl, a7⟩
 have r := r.trans (a7.mono n)
 replace n := Nat.le_trans n (a7.size)
 refine xX (mayF lo hi) ?_ ?_
 ·intro c2
  have dw := mayG_b c2
  have j := zA (zA j a9) a7
  have d := zA d a7
  have ac := (ac.below a9).below a7
  refine znt true (zI (nQ (zF (zZ (zS (zB (wR (zG (wG d (zc (c_cut_S l t xs lo hi B_ _ n j cn ac (by first | exact hr | exact bs) zo zo) ?_))))))))))
  replace o := o.trans2 (Ch.of_below a7) (fun _ h => h.elim)
  rintro _ dr ⟨s, rfl, cr, c, ch, bn⟩
  have af : ∀ g, Value.ownBlock s = some g → (World.heap w).size ≤ g ∨ (Dm l t) g := fun g hg => (ch g hg).elim (fun x => .inl (Nat.le_trans o.size x)) (fun x => x.elim (fun x => x ▸ bk) (fun x => a6 g x))
  have r := bn.below r n (fun k e => e.elim (fun x => x ▸ cn) (fun x => (World.ownsRow.lt ac k x).1))
  replace n := Nat.le_trans n bn.size
  have d := yH d bn (zH d j zi) (ac.ne d zi)
  have j := cr
  refine nR (wB 0 d rfl (wB 1 d rfl (zG (zr (Value.agg #[(I3 lo), (I3 hi), (S val)]) (zN [(I3 0), (I3 0), (S [])] 138 ?_)))))
  intro al dj ah
  have bt : B_ ≤ al := by rw [ah.num]; exact n
  replace o := o.trans2 bn (fun k e => e.elim (fun x => x ▸ bk) (fun x => a6 k x))
  have bb : (World.heap w).size ≤ al ∨ (Dm l t) al := .inl (by rw [ah.num]; exact o.size)
  have m := c.new_ne ah
  have r := r.trans (ah.below.mono n)
  replace n := Nat.le_trans n (ah.below.size)
  have i := ah.here
  refine qC [(I3 lo), (I3 hi), (S val)] i ?_
  intro dg aw
  replace n := Nat.le_trans n (Nat.le_of_eq aw.size.symm)
  have j := zA j ah.below
  have j := zC j aw (zH j i zi)
  have d := zA d ah.below
  have d := zC d aw (zH d i zi)
  have i := aw.here
  have c := (c.below ah.below).wrote aw m
  refine nR (zG (wB 0 d rfl (zc (c_from_S l s (cutM xs lo hi) lo _ j c.rd (by first | exact hr | exact bs) zo) ?_)))
  replace o := (o.trans2 (Ch.of_below ah.below) (fun _ h => h.elim)).trans2 (Ch.of_wrote aw) (fun k e => e ▸ bb)
  rintro _ dn ⟨rfl, z⟩
  have r := r.trans (aw.below bt)
  have r := r.trans (z.mono n)
  replace n := Nat.le_trans n (z.size)
  have := fromG_le (cutM xs lo hi) lo
  refine zI (nR (zG (zI (nQ (W_cut (fun s0 w0 => ∃ (a : Nat) (p : Int), (s0.ds = []) ∧ ([0, 2, 6, 7, 9, 8].map s0.f = [(pt l 0), (S val), (I6 0), (pt al 0), (N6 (fromG (cutM xs lo hi) lo)), (N6 a)]) ∧ (Row w0 B_ 138 3 encSpanS s (cutM xs lo hi)) ∧ (w0.heap[l]? = some (.cells [s, (.bool true)].toArray 136 (0, 0))) ∧ (w0.heap[b1]? = some (.cells [(I3 lo), (I3 hi)].toArray 29 (0, 0))) ∧ (w0.heap[al]? = some (.cells [(I3 p), (I3 hi), (S val)].toArray 138 (0, 0))) ∧ (Below B_ w w0) ∧ (Ch (Dm l t) w w0) ∧ (B_ ≤ w0.heap.size) ∧ (leftC eqS (cutM xs lo hi) lo val = (a, p)) ∧ (a ≤ fromG (cutM xs lo hi) lo)) ?_ ?_)))))
  ·refine yA (yV zk zk (zY (Lq_cmp .i64 (((fromG (cutM xs lo hi) lo) : Nat) : Int) ((0 : Nat) : Int) (0 < (fromG (cutM xs lo hi) lo)) rfl (cmpN_gt (fromG (cutM xs lo hi) lo) 0) zk zk ?_ ?_)))
   ·intro cv
    replace cv : 0 < (fromG (cutM xs lo hi) lo) := by omega
    have j := zA j z
    refine zY (qw (zY (qw (zV (pt l 0) zf (qw (zV (pt l 0) zf (qw (zX l 0 s zk zf (zK j rfl) (qw (zY (qw (Lq_subN (fromG (cutM xs lo hi) lo) 1 zo zo zk zk (qw ?_)))))))))))))
    have hz := yN (cutM xs lo hi) ((fromG (cutM xs lo hi) lo) - 1) zo; obtain ⟨am, bj⟩ := hz
    have c := c.below z
    have hz := (c.rd).at (k := 3) zj bj
    obtain ⟨b7, bg, ck, cm⟩ := hz
    have cu := bs.at bj
    have i := zA i z
    refine yO (k := .i64) s ((fromG (cutM xs lo hi) lo) - 1) _ b7 bg yT ck zo zk zk (qw (zV (pt b7 ((bg + ((fromG (cutM xs lo hi) lo) - 1) * 3) + 1)) zf (qw (zX b7 ((bg + ((fromG (cutM xs lo hi) lo) - 1) * 3) + 1) (I3 am.2.1) zk zf (cm 1 _ rfl) (qw (qX am.2.1 1 (am.2.1 + 1) rfl zk zk (xD _ zh zh) (qw (zV (pt al 0) zf (qw (zX al 0 (I3 lo) zk zf (zK i rfl) (qw (Lq_cmp .i32 (am.2.1 + 1) lo ((am.2.1 + 1) = lo) rfl (cmp_eq (am.2.1 + 1) lo) zk zk ?_ ?_))))))))))))
    ·intro c5
     replace c5 : (am.2.1 + 1) = lo := by omega
     refine qT (zY (qw (zY (qw (zV (pt l 0) zf (qw (zV (pt l 0) zf (qw (zX l 0 s zk zf (zK j rfl) (qw (zY (qw (Lq_subN (fromG (cutM xs lo hi) lo) 1 zo zo zk zk (qw ?_))))))))))))))
     have hz := (c.rd).at (k := 3) zj bj
     obtain ⟨cc, bi, co, ci⟩ := hz
     refine yO (k := .i64) s ((fromG (cutM xs lo hi) lo) - 1) _ cc bi yT co zo zk zk (qw (zV (pt cc ((bi + ((fromG (cutM xs lo hi) lo) - 1) * 3) + 2)) zf (qw (zX cc ((bi + ((fromG (cutM xs lo hi) lo) - 1) * 3) + 2) (S am.2.2) zk zf (ci 2 _ rfl) (qw (zY (qw (Lq_seq am.2.2 val rfl zk zk ?_ ?_))))))))
     ·intro d2
      refine qT (yM ?_)
      intro dy ay
      have r := r.trans (ay.mono n)
      replace n := Nat.le_trans n (ay.size)
      have j := zA j ay
      refine zB (zT (wR (zG (zsb (fromG (cutM xs lo hi) lo) 1 (zI (nQ (zW (zG (zr (pt l 0) (wB 0 j rfl (zG ?_)))))))))))
      have i := zA i ay
      have c := c.below ay
      refine zE c.rd yT ((fromG (cutM xs lo hi) lo) - 1) bj 0 rfl fun _ _ => (zr (pt al 0) (z1 0 (I3 am.1) [(I3 am.1), (I3 hi), (S val)] i ?_))
      intro dx a3
      replace n := Nat.le_trans n (Nat.le_of_eq a3.size.symm)
      have j := zC j a3 (zH j i zi)
      have d := zA (zA d z) ay
      have d := zC d a3 (zH d i zi)
      have i := a3.here
      refine zR ?_
      have r := r.trans (a3.below bt)
      replace o := ((o.trans2 (Ch.of_below z) (fun _ h => h.elim)).trans2 (Ch.of_below ay) (fun _ h => h.elim)).trans2 (Ch.of_wrote a3) (fun k e => e ▸ bb)
      have c := c.wrote a3 m
      exact zB ⟨((fromG (cutM xs lo hi) lo) - 1), am.1, rfl, zk, c, j, d, i, r, o, n, leftC_yes zo za zo (eqS_y za), zo⟩
     intro dh
     refine qT (yM ?_)
     intro dp au
     have r := r.trans (au.mono n)
     replace n := Nat.le_trans n (au.size)
     refine zB (zF (zZ ?_))
     replace o := (o.trans2 (Ch.of_below z) (fun _ h => h.elim)).trans2 (Ch.of_below au) (fun _ h => h.elim)
     have j := zA j au
     have d := zA (zA d z) au
     have i := zA i au
     have c := c.below au
     exact zB ⟨(fromG (cutM xs lo hi) lo), lo, rfl, zk, c, j, d, i, r, o, n, leftC_no zo za (.inr (eqS_n za)), zo⟩
    intro c4
    replace c4 : (am.2.1 + 1) ≠ lo := by omega
    refine qT (zY (qs (qs (qs (qs (qs (qs (qs (qs (qs (qs (qs (qF (yM ?_))))))))))))))
    intro d4 a4
    have r := r.trans (a4.mono n)
    replace n := Nat.le_trans n (a4.size)
    refine zB (zF (zZ ?_))
    replace o := (o.trans2 (Ch.of_below z) (fun _ h => h.elim)).trans2 (Ch.of_below a4) (fun _ h => h.elim)
    have j := zA j a4
    have d := zA (zA d z) a4
    have i := zA i a4
    have c := c.below a4
    exact zB ⟨(fromG (cutM xs lo hi) lo), lo, rfl, zk, c, j, d, i, r, o, n, leftC_no zo za (.inl zo), zo⟩
   intro c3
   replace c3 : (fromG (cutM xs lo hi) lo) ≤ 0 := by omega
   refine zY (qs (qs (qs (qs (qs (qs (qs (qs (qs (qs (qs (qs (qs (qF (zY (qs (qs (qs (qs (qs (qs (qs (qs (qs (qs (qs (qF (yM ?_))))))))))))))))))))))))))))
   intro d1 a5
   have r := r.trans (a5.mono n)
   replace n := Nat.le_trans n (a5.size)
   refine zB (zF (zZ ?_))
   replace o := (o.trans2 (Ch.of_below z) (fun _ h => h.elim)).trans2 (Ch.of_below a5) (fun _ h => h.elim)
   have j := zA (zA j z) a5
   have d := zA (zA d z) a5
   have i := zA (zA i z) a5
   have c := (c.below z).below a5
   exact zB ⟨(fromG (cutM xs lo hi) lo), lo, rfl, zk, c, j, d, i, r, o, n, leftC_zero zo, zo⟩
  rintro dk dt ⟨a, p, bf, b9, c, j, d, i, r, o, n, jl, ja⟩
  refine wF b9 (W_cut (fun s0 w0 => ∃ (b : Nat) (q : Int), (s0.ds = []) ∧ ([0, 6, 7, 8, 9].map s0.f = [(pt l 0), (I6 0), (pt al 0), (N6 a), (N6 b)]) ∧ (Row w0 B_ 138 3 encSpanS s (cutM xs lo hi)) ∧ (w0.heap[l]? = some (.cells [s, (.bool true)].toArray 136 (0, 0))) ∧ (w0.heap[b1]? = some (.cells [(I3 lo), (I3 hi)].toArray 29 (0, 0))) ∧ (w0.heap[al]? = some (.cells [(I3 p), (I3 q), (S val)].toArray 138 (0, 0))) ∧ (Below B_ w w0) ∧ (Ch (Dm l t) w w0) ∧ (B_ ≤ w0.heap.size) ∧ (rightC eqS (cutM xs lo hi) lo hi val = (b, q)) ∧ (fromG (cutM xs lo hi) lo ≤ b ∧ b ≤ ((cutM xs lo hi)).length)) ?_ ?_)
  ·refine yA (yV zk zk (zY (zY (zV (pt l 0) zf (zV (pt l 0) zf (zX l 0 s zk zf (zK j rfl) (Lq_len 134 138 ((cutM xs lo hi)).length s rfl Try.underlying134 (c.rd).len zk (Lq_cmp .i64 (((fromG (cutM xs lo hi) lo) : Nat) : Int) ((((cutM xs lo hi)).length : Nat) : Int) ((fromG (cutM xs lo hi) lo) < ((cutM xs lo hi)).length) rfl (cmpN_lt (fromG (cutM xs lo hi) lo) (((cutM xs lo hi)).length)) zk zk ?_ ?_))))))))
   ·intro cw
    replace cw : (fromG (cutM xs lo hi) lo) < ((cutM xs lo hi)).length := by omega
    refine zY (qw (zY (qw (zV (pt l 0) zf (qw (zV (pt l 0) zf (qw (zX l 0 s zk zf (zK j rfl) (qw (zY (qw ?_)))))))))))
    have hz := yN (cutM xs lo hi) (fromG (cutM xs lo hi) lo) zo; obtain ⟨av, bm⟩ := hz
    have hz := (c.rd).at (k := 3) zj bm
    obtain ⟨cb, bh, cg, cj⟩ := hz
    have cu := bs.at bm
    refine yO (k := .i64) s (fromG (cutM xs lo hi) lo) _ cb bh yT cg zo zk zk (qw (zV (pt cb (bh + (fromG (cutM xs lo hi) lo) * 3)) zf (qw (zX cb (bh + (fromG (cutM xs lo hi) lo) * 3) (I3 av.1) zk zf (cj 0 _ rfl) (qw (zV (pt al 1) zf (qw (zX al 1 (I3 hi) zk zf (zK i rfl) (qw (qX hi 1 (hi + 1) rfl zk zk (xD _ zh zh) (qw (Lq_cmp .i32 av.1 (hi + 1) (av.1 = (hi + 1)) rfl (cmp_eq av.1 (hi + 1)) zk zk ?_ ?_))))))))))))
    ·intro cx
     replace cx : av.1 = (hi + 1) := by omega
     refine qT (zY (qw (zY (qw (zV (pt l 0) zf (qw (zV (pt l 0) zf (qw (zX l 0 s zk zf (zK j rfl) (qw (zY (qw ?_))))))))))))
     have hz := (c.rd).at (k := 3) zj bm
     obtain ⟨b5, bc, cq, cl⟩ := hz
     refine yO (k := .i64) s (fromG (cutM xs lo hi) lo) _ b5 bc yT cq zo zk zk (qw (zV (pt b5 ((bc + (fromG (cutM xs lo hi) lo) * 3) + 2)) zf (qw (zX b5 ((bc + (fromG (cutM xs lo hi) lo) * 3) + 2) (S av.2.2) zk zf (cl 2 _ rfl) (qw (zY (qw (Lq_seq av.2.2 val rfl zk zk ?_ ?_))))))))
     ·intro dv
      refine qT (yM ?_)
      intro du aq
      have r := r.trans (aq.mono n)
      replace n := Nat.le_trans n (aq.size)
      have j := zA j aq
      refine zB (zT (wR (zG (zr (pt l 0) (wB 0 j rfl (zG ?_))))))
      have i := zA i aq
      have c := c.below aq
      refine zE c.rd yT (fromG (cutM xs lo hi) lo) bm 1 rfl fun _ _ => (zr (pt al 1) (z1 1 (I3 av.2.1) [(I3 p), (I3 av.2.1), (S val)] i ?_))
      intro d0 ar
      replace n := Nat.le_trans n (Nat.le_of_eq ar.size.symm)
      have j := zC j ar (zH j i zi)
      have d := zA d aq
      have d := zC d ar (zH d i zi)
      have i := ar.here
      refine nQ (zW (zG (vG (fromG (cutM xs lo hi) lo) 1 (zI (zR ?_)))))
      have r := r.trans (ar.below bt)
      replace o := (o.trans2 (Ch.of_below aq) (fun _ h => h.elim)).trans2 (Ch.of_wrote ar) (fun k e => e ▸ bb)
      have c := c.wrote ar m
      exact zB ⟨((fromG (cutM xs lo hi) lo) + 1), av.2.1, bf, zk, c, j, d, i, r, o, n, rightC_yes za zo (eqS_y za), zo⟩
     intro dm
     refine qT (yM ?_)
     intro dq a1
     have r := r.trans (a1.mono n)
     replace n := Nat.le_trans n (a1.size)
     refine zB (zF (zZ ?_))
     replace o := o.trans2 (Ch.of_below a1) (fun _ h => h.elim)
     have j := zA j a1
     have d := zA d a1
     have i := zA i a1
     have c := c.below a1
     exact zB ⟨(fromG (cutM xs lo hi) lo), hi, bf, zk, c, j, d, i, r, o, n, rightC_no za (.inr (eqS_n za)), zo⟩
    intro cy
    replace cy : av.1 ≠ (hi + 1) := by omega
    refine qT (zY (qs (qs (qs (qs (qs (qs (qs (qs (qs (qs (qF (yM ?_)))))))))))))
    intro de a2
    have r := r.trans (a2.mono n)
    replace n := Nat.le_trans n (a2.size)
    refine zB (zF (zZ ?_))
    replace o := o.trans2 (Ch.of_below a2) (fun _ h => h.elim)
    have j := zA j a2
    have d := zA d a2
    have i := zA i a2
    have c := c.below a2
    exact zB ⟨(fromG (cutM xs lo hi) lo), hi, bf, zk, c, j, d, i, r, o, n, rightC_no za (.inl zo), zo⟩
   intro cz
   replace cz : ((cutM xs lo hi)).length ≤ (fromG (cutM xs lo hi) lo) := by omega
   refine zY (qs (qs (qs (qs (qs (qs (qs (qs (qs (qs (qs (qs (qF (zY (qs (qs (qs (qs (qs (qs (qs (qs (qs (qs (qF (yM ?_))))))))))))))))))))))))))
   intro df a0
   have r := r.trans (a0.mono n)
   replace n := Nat.le_trans n (a0.size)
   refine zB (zF (zZ ?_))
   replace o := o.trans2 (Ch.of_below a0) (fun _ h => h.elim)
   have j := zA j a0
   have d := zA d a0
   have i := zA i a0
   have c := c.below a0
   exact zB ⟨(fromG (cutM xs lo hi) lo), hi, bf, zk, c, j, d, i, r, o, n, rightC_end zo, zo⟩
  rintro dl dz ⟨b, q, bf, b9, c, j, d, i, r, o, n, jr, jb⟩
  refine wF b9 (yA (W_held 13 zk zk ?_))
  intro b8 ag
  have r := r.trans (ag.mono n)
  replace n := Nat.le_trans n (ag.size)
  refine ⟨fun w2 => Ch (Dm l s) b8 w2, ?_⟩
  have hS : Ch (Dm l s) b8 b8 := Ch.refl _ _
  refine hp 0 rfl (pt l 0) hS (hp 1 rfl (pt l 0) hS (hp 2 rfl (pt l 0) hS (hp 3 rfl (pt l 0) hS (hp 5 rfl (N6 a) hS (hp 6 rfl (N6 b) hS ?_)))))
  have j := zA j ag
  have i := zA i ag
  refine ht 7 rfl (Value.agg #[(I3 p), (I3 q), (S val)]) hS (R_loadA al 0 [(I3 p), (I3 q), (S val)] zk zf zf (fun w2 h2 => cells_at (yH i h2 (zH i j zi) m) 0 zk)) ?_
  refine H_all2 4 8 zk ?_ ?_
  ·skip
   refine H_op 4 rfl zk plain_load (zO 0 j rfl (zR ?_))
   refine ⟨rfl, hS, H_all1 8 zk (H_op 8 rfl zk zk (zM 1 [(I3 p), (I3 q), (S val)] 138 ?_))⟩
   intro bv c1 y
   have b6 : B_ ≤ bv := by rw [y.num]; exact n
   have c := c.below ag
   have ao : Value.ownBlock s = none ∨ Value.ownBlock s ≠ Value.ownBlock (.slice (some ⟨bv, 0, none⟩) 1 1) := .inr (c.new_ne y)
   have ab := yW ao
   replace o := o.trans2 (Ch.of_below ag) (fun _ h => h.elim)
   have ce : ∀ g, Value.ownBlock (.slice (some ⟨bv, 0, none⟩) 1 1) = some g → (World.heap w).size ≤ g ∨ (Dm l t) g := fun g h => .inl (by cases h; rw [y.num]; exact o.size)
   have r := r.trans (y.below.mono n)
   replace n := Nat.le_trans n (y.below.size)
   have bu : Row c1 B_ 138 3 encSpanS (.slice (some ⟨bv, 0, none⟩) 1 1) ([(p, q, val)] : List (Int × Int × List UInt8)) := Row.made ([(p, q, val)] : List (Int × Int × List UInt8)) y b6 rfl rfl (by first | decide | (simp; done))
   refine zR ?_
   replace hS := hS.trans2 (Ch.of_below y.below) (fun _ h => h.elim)
   refine ⟨rfl, hS, H_all1 9 zk (H_op 9 rfl zk zk ?_)⟩
   have c := c.below y.below
   refine zc (c_replace_S B_ s (cutM xs lo hi) a b (.slice (some ⟨bv, 0, none⟩) 1 1) ([(p, q, val)] : List (Int × Int × List UInt8)) _ n c bu.mono0 ab zo zo zo (by first | omega | simp)) ?_
   replace o := o.trans2 (Ch.of_below y.below) (fun _ h => h.elim)
   rintro b4 da ⟨_, rfl, ak, br, ae⟩
   have bd := dr_call o br af
   have r := ae.below r n (fun k e => (World.ownsRow.lt c k e).1)
   replace n := Nat.le_trans n ae.size
   have j := zA j y.below
   have az := wS j ae (c.ne j zi)
   have d := zA (zA d ag) y.below
   have bz := wS d ae (c.ne d zi)
   have i := zA i y.below
   have bp := nb_mutrow i br m
   have bx := wS i ae m
   have cs := bu.ch_row ae ab
   have j := az; clear az
   refine zR ?_
   replace hS := hS.trans2 ae (fun k e => .inr (.inr e))
   refine ⟨rfl, hS, hp 10 rfl (pt l 0) hS (hp 11 rfl (pt l 0) hS (H_all1 12 zk (H_op 12 rfl zk plain_store (yQ l 0 b4 [s, (.bool true)] [b4, (.bool true)] 136 zk zk ak.one zk j zi rfl ?_))))⟩
   intro dc ap
   replace n := Nat.le_trans n (Nat.le_of_eq ap.size.symm)
   have ak := ak.wrote ap (ak.ne j zi)
   have j := ap.here
   refine zR ?_
   replace hS := hS.trans2 (Ch.of_wrote ap) (fun k e => .inr (.inl e))
   refine ⟨rfl, hS, H_done zk (zB (wR (zI (nQ (yB (yJ [(I6 0)] (hd := bf) ?_))))))⟩
   have hE : ((0 : Int) = (layE lo hi)) ∧ ((List.take a (cutM xs lo hi) ++ ([(p, q, val)] : List (Int × Int × List UInt8)) ++ List.drop b (cutM xs lo hi)) = (layF eqS xs lo hi val)) := ⟨(by (rw [layE, if_neg (tnf za)]; done)), (by (rw [layF, if_neg (tnf za), layG, show cutG lo hi xs = cutM xs lo hi from (by rw [cutM, if_neg (tnf za)])]; exact layC_mk jl jr))⟩
   replace o := (o.trans2 ae (fun k e => af k e)).trans2 (Ch.of_wrote ap) (fun k e => e ▸ bk)
   exact ⟨_, e6 hE.1, j, ak.cast hE.2, bd, o⟩
  skip
  refine H_op 8 rfl zk zk (zM 1 [(I3 p), (I3 q), (S val)] 138 ?_)
  intro a8 cf u
  have b0 : B_ ≤ a8 := by rw [u.num]; exact n
  have c := c.below ag
  have an : Value.ownBlock s = none ∨ Value.ownBlock s ≠ Value.ownBlock (.slice (some ⟨a8, 0, none⟩) 1 1) := .inr (c.new_ne u)
  have aa := yW an
  replace o := o.trans2 (Ch.of_below ag) (fun _ h => h.elim)
  have ca : ∀ g, Value.ownBlock (.slice (some ⟨a8, 0, none⟩) 1 1) = some g → (World.heap w).size ≤ g ∨ (Dm l t) g := fun g h => .inl (by cases h; rw [u.num]; exact o.size)
  have r := r.trans (u.below.mono n)
  replace n := Nat.le_trans n (u.below.size)
  have bl : Row cf B_ 138 3 encSpanS (.slice (some ⟨a8, 0, none⟩) 1 1) ([(p, q, val)] : List (Int × Int × List UInt8)) := Row.made ([(p, q, val)] : List (Int × Int × List UInt8)) u b0 rfl rfl (by first | decide | (simp; done))
  refine zR ?_
  replace hS := hS.trans2 (Ch.of_below u.below) (fun _ h => h.elim)
  refine ⟨rfl, hS, H_all1 4 zk (H_op 4 rfl zk plain_load ?_)⟩
  have j := zA j u.below
  refine zO 0 j rfl (zR ?_)
  refine ⟨rfl, hS, H_all1 9 zk (H_op 9 rfl zk zk ?_)⟩
  have c := c.below u.below
  refine zc (c_replace_S B_ s (cutM xs lo hi) a b (.slice (some ⟨a8, 0, none⟩) 1 1) ([(p, q, val)] : List (Int × Int × List UInt8)) _ n c bl.mono0 aa zo zo zo (by first | omega | simp)) ?_
  replace o := o.trans2 (Ch.of_below u.below) (fun _ h => h.elim)
  rintro b2 c9 ⟨_, rfl, aj, bw, ad⟩
  have be := dr_call o bw af
  have r := ad.below r n (fun k e => (World.ownsRow.lt c k e).1)
  replace n := Nat.le_trans n ad.size
  have az := wS j ad (c.ne j zi)
  have d := zA (zA d ag) u.below
  have bz := wS d ad (c.ne d zi)
  have i := zA i u.below
  have bo := nb_mutrow i bw m
  have bx := wS i ad m
  have cd := bl.ch_row ad aa
  have j := az; clear az
  refine zR ?_
  replace hS := hS.trans2 ad (fun k e => .inr (.inr e))
  refine ⟨rfl, hS, hp 10 rfl (pt l 0) hS (hp 11 rfl (pt l 0) hS (H_all1 12 zk (H_op 12 rfl zk plain_store (yQ l 0 b2 [s, (.bool true)] [b2, (.bool true)] 136 zk zk aj.one zk j zi rfl ?_))))⟩
  intro c6 ax
  replace n := Nat.le_trans n (Nat.le_of_eq ax.size.symm)
  have aj := aj.wrote ax (aj.ne j zi)
  have j := ax.here
  refine zR ?_
  replace hS := hS.trans2 (Ch.of_wrote ax) (fun k e => .inr (.inl e))
  refine ⟨rfl, hS, H_done zk (zB (wR (zI (nQ (yB (yJ [(I6 0)] (hd := bf) ?_))))))⟩
  have hE : ((0 : Int) = (layE lo hi)) ∧ ((List.take a (cutM xs lo hi) ++ ([(p, q, val)] : List (Int × Int × List UInt8)) ++ List.drop b (cutM xs lo hi)) = (layF eqS xs lo hi val)) := ⟨(by (rw [layE, if_neg (tnf za)]; done)), (by (rw [layF, if_neg (tnf za), layG, show cutG lo hi xs = cutM xs lo hi from (by rw [cutM, if_neg (tnf za)])]; exact layC_mk jl jr))⟩
  replace o := (o.trans2 ad (fun k e => af k e)).trans2 (Ch.of_wrote ax) (fun k e => e ▸ bk)
  exact ⟨_, e6 hE.1, j, aj.cast hE.2, be, o⟩
 intro db
 refine znt false (zI (nQ (zT (wR (zI (nQ (yB (yG (zP (yJ [(I6 41)] ?_))))))))))
 have hE : ((41 : Int) = (layE lo hi)) ∧ (xs = (layF eqS xs lo hi val)) := ⟨(by (rw [layE, if_pos za]; done)), (by (rw [layF, if_pos za]; done))⟩
 replace o := o.trans2 (Ch.of_below a7) (fun _ h => h.elim)
 have j := zA (zA j a9) a7
 have ac := (ac.below a9).below a7
 exact ⟨_, e6 hE.1, j, ac.cast hE.2, a6, o⟩
theorem c_put_S (f : Nat) (b : Value) (xs : List (Int × Int × List UInt8)) (lo : Int) (hi : Int) (val : List UInt8) (B_ : Nat) (w : World) (hs0 : B_ ≤ w.heap.size) (d : w.heap[f]? = some (.cells [b, (.bool true)].toArray 136 (0, 0))) (ah : B_ ≤ f) (a : Row w B_ 138 3 encSpanS b xs) (hr : RiseG 0 xs) (hlo : -2147483648 ≤ lo ∧ lo ≤ 2147483647) (hhi : -2147483648 ≤ hi ∧ hi ≤ 2147483647) :
  Calls Try.prog 44 #[(pt f 0), (Value.agg #[(I3 lo), (I3 hi)]), (S val)] w (Ret fun v w' => ∃ q0 : Value, v = (I6 (putE xs lo hi)) ∧ w'.heap[f]? = some (.cells [q0, (.bool true)].toArray 136 (0, 0)) ∧ Row w' B_ 138 3 encSpanS q0 (putF eqS xs lo hi val) ∧ (∀ g, Value.ownBlock q0 = some g → w.heap.size ≤ g ∨ (Dm f b) g) ∧ Ch (Dm f b) w w') := by
 refine wL 29 Try.func44 rfl ?_
 have s := Below.refl B_ w
 have m : B_ ≤ (World.heap w).size := hs0
 have n := Ch.refl (Dm f b) w
 have ae : (World.heap w).size ≤ f ∨ (Dm f b) f := .inr (.inl rfl)
 have j : ∀ g, Value.ownBlock b = some g → (World.heap w).size ≤ g ∨ (Dm f b) g := fun g h => .inr (.inr h)
 have aw := hr.len
 refine wR (zN [(I3 lo), (I3 hi)] 29 ?_)
 intro b1 w2 r
 have ap : B_ ≤ b1 := by rw [r.num]; exact m
 have ao : (World.heap w).size ≤ b1 ∨ (Dm f b) b1 := .inl (by rw [r.num]; exact n.size)
 have s := s.trans (r.below.mono m)
 replace m := Nat.le_trans m (r.below.size)
 have c := r.here
 have d := zA d r.below
 have a := a.below r.below
 refine zI (nW (yC (wR (zG (zc (qO f b xs _ d a.rd) ?_)))))
 replace n := n.trans2 (Ch.of_below r.below) (fun _ h => h.elim)
 rintro _ w4 ⟨rfl, q⟩
 have s := s.trans (q.mono m)
 replace m := Nat.le_trans m (q.size)
 have c := zA c q
 refine zI (nQ (zF (wR (wG c (zc (c_points_May lo hi _ ) ?_)))))
 replace n := n.trans2 (Ch.of_below q) (fun _ h => h.elim)
 rintro _ w7 ⟨rfl, p⟩
 have s := s.trans (p.mono m)
 replace m := Nat.le_trans m (p.size)
 refine xX (mayF lo hi) ?_ ?_
 ·intro al
  have ar := mayG_b al
  have d := zA (zA d q) p
  have c := zA c p
  have a := (a.below q).below p
  refine znt true (zI (nQ (zF (zZ (zS (zB (yA (wR (zG (wG c (zc (xW f b xs lo hi _ d a.rd (by exact hr) zo) ?_)))))))))))
  replace n := n.trans2 (Ch.of_below p) (fun _ h => h.elim)
  rintro _ ay ⟨rfl, o⟩
  have s := s.trans (o.mono m)
  replace m := Nat.le_trans m (o.size)
  refine zG (zr (Value.agg #[(I3 ((metV ([] : List UInt8) (metG xs lo hi)).1)), (I3 ((metV ([] : List UInt8) (metG xs lo hi)).2.1))]) (zr (S ((metV ([] : List UInt8) (metG xs lo hi)).2.2.1)) (zr (.bool ((metV ([] : List UInt8) (metG xs lo hi)).2.2.2)) (zN [(I3 0), (I3 0)] 29 ?_))))
  intro ag av i
  have c := zA c o
  have t := qB (yD c) i
  have ai : B_ ≤ ag := by rw [i.num]; exact m
  replace n := n.trans2 (Ch.of_below o) (fun _ h => h.elim)
  have ac : (World.heap w).size ≤ ag ∨ (Dm f b) ag := .inl (by rw [i.num]; exact n.size)
  have s := s.trans (i.below.mono m)
  replace m := Nat.le_trans m (i.below.size)
  have y := i.here
  refine qC [(I3 ((metV ([] : List UInt8) (metG xs lo hi)).1)), (I3 ((metV ([] : List UInt8) (metG xs lo hi)).2.1))] y ?_
  intro ax l
  replace m := Nat.le_trans m (Nat.le_of_eq l.size.symm)
  have d := zA (zA d o) i.below
  have d := zC d l (zH d y zi)
  have a := (a.below o).below i.below
  have a := a.wrote l (a.ne y zi)
  refine zI (zI (nR (zG (nQ ?_))))
  rcases Bool.eq_false_or_eq_true ((metV ([] : List UInt8) (metG xs lo hi)).2.2.2) with ab | ab
  ·skip
   refine W_ifT ab zk (wR (zI (nQ (yB (zP (yJ [(I6 42)] ?_))))))
   have hE : ((42 : Int) = (putE xs lo hi)) ∧ (xs = (putF eqS xs lo hi val)) := ⟨(by exact (put_metG (eq := eqS) (v := val) (z := ([] : List UInt8)) za za).1), (by exact (put_metG (z := ([] : List UInt8)) za za).2)⟩
   replace n := (n.trans2 (Ch.of_below i.below) (fun _ h => h.elim)).trans2 (Ch.of_wrote l) (fun k e => e ▸ ac)
   exact ⟨_, e6 hE.1, d, a.cast hE.2, j, n⟩
  skip
  have c := zC (zA c i.below) l t
  refine W_ifF ab zk (zZ (zB (wR (zG (wG c (zG (zc (qY f b xs lo hi val B_ _ m d ah a (by exact hr) zo zo) ?_)))))))
  replace n := (n.trans2 (Ch.of_below i.below) (fun _ h => h.elim)).trans2 (Ch.of_wrote l) (fun k e => e ▸ ac)
  rintro _ au ⟨am, rfl, ak, af, aj, aa⟩
  have u : ∀ g, Value.ownBlock am = some g → (World.heap w).size ≤ g ∨ (Dm f b) g := fun g hg => (aj g hg).elim (fun x => .inl (Nat.le_trans n.size x)) (fun x => x.elim (fun x => x ▸ ae) (fun x => j g x))
  have s := s.trans (l.below ai)
  have s := aa.below s m (fun k e => e.elim (fun x => x ▸ ah) (fun x => (World.ownsRow.lt a k x).1))
  replace m := Nat.le_trans m aa.size
  have d := ak
  refine zI (nQ (yB (yJ [(I6 (layE lo hi))] ?_)))
  have hE : (((layE lo hi) : Int) = (putE xs lo hi)) ∧ ((layF eqS xs lo hi val) = (putF eqS xs lo hi val)) := ⟨(by exact (put_okG (eq := eqS) (v := val) (z := ([] : List UInt8)) za za).1), (by exact (put_okG (z := ([] : List UInt8)) za za).2)⟩
  replace n := n.trans2 aa (fun k e => e.elim (fun x => x ▸ ae) (fun x => j k x))
  exact ⟨_, e6 hE.1, d, af.cast hE.2, u, n⟩
 intro aq
 refine znt false (zI (nQ (zT (wR (zI (nQ (yB (yG (zP (yJ [(I6 41)] ?_))))))))))
 have hE : ((41 : Int) = (putE xs lo hi)) ∧ (xs = (putF eqS xs lo hi val)) := ⟨(by exact (put_badG (eq := eqS) (v := val) za).1), (by exact (put_badG za).2)⟩
 replace n := n.trans2 (Ch.of_below p) (fun _ h => h.elim)
 have d := zA (zA d q) p
 have a := (a.below q).below p
 exact ⟨_, e6 hE.1, d, a.cast hE.2, j, n⟩
theorem c_clone_S (b : Value) (s : List (Int × Int × List UInt8)) (w : World) (e : Rd w encSpanS b s) (hl : s.length ≤ 4194304) :
  Calls Try.prog 73 #[b] w (Ret fun v w' => ∃ (q0 : Value), v = q0 ∧ Row w' w.heap.size 138 3 encSpanS q0 s ∧ Below w.heap.size w w') := by
 refine wL 8 Try.func73 rfl ?_
 have d := Below.refl w.heap.size w
 refine wR (zI (nW (wR (zG (L_snil b s e zk zk (fun _ _ _ => zk) (fun _ _ _ _ => zk) ?_ ?_)))))
 ·intro n
  exact nQ (zT (wR (zI (nQ (yB (zP (yJ [(.slice none 0 0)] ⟨(.slice none 0 0), rfl, (Row.nil _ _ _ _ _).cast (by (subst s; rfl)), d⟩)))))))
 refine nQ (zF (zZ (zB (wR (zM 0 [] 138 ?_)))))
 intro i l c
 have f := c.ge d.size
 have a : Row l w.heap.size 138 3 encSpanS (.slice (some ⟨i, 0, none⟩) 0 0) ([] : List (Int × Int × List UInt8)) := Row.made ([] : List (Int × Int × List UInt8)) c f rfl rfl (by first | decide | (simp; done))
 have d := d.tr c.below
 have e := e.below c.below
 refine zG (xV yT w.heap.size (.slice (some ⟨i, 0, none⟩) 0 0) b ([] : List (Int × Int × List UInt8)) s d.size a e (by (simp only [List.length_append, List.length_nil] <;> omega)) zj zj zk zk zk ?_)
 intro k m g h j 
 have d := d.tg d.size h a
 have a := g
 exact zI (nQ (yB (yJ [k] ⟨k, rfl, a.cast (by rfl), d⟩)))
theorem it_all_S (bx_m v : Nat) (s : Value) (xs : List (Int × Int × List UInt8)) (hl : xs.length ≤ 4194304) :
  Iter (α := SpS) Try.prog 72 [.pointer (some ⟨bx_m, 0, none⟩)] (fun x => [.agg #[.int .i32 x.1, .int .i32 x.2.1], S x.2.2]) xs (fun w => w.heap[bx_m]? = some (.cells [(pt v 0)].toArray 66 (0, 0)) ∧ w.heap[v]? = some (.cells [s, (.bool true)].toArray 136 (0, 0)) ∧ Rd w encSpanS s xs) := by
 intro l J Jx w hN h0 ar a0 hY
 refine wL 28 Try.func72 rfl ?_
 have hb := Below.refl w.heap.size w
 have q : w.heap.size ≤ w.heap.size := Nat.le_refl _
 obtain ⟨b, a, c⟩ := hN
 have aa := c
 refine yA (wR (zO 0 b rfl (zc (qO v s xs _ a c) ?_)))
 rintro _ w1 ⟨rfl, ab⟩
 have hb := hb.trans (ab.mono q)
 replace q := Nat.le_trans q (ab.size)
 have b := zA b ab
 have a := zA a ab
 have c := c.below ab
 refine nQ (zF (zZ (zB (wR (zO 0 b rfl (zr (pt v 0) (wB 0 a rfl (zc (c_clone_S s xs _ c zo) ?_))))))))
 rintro q4 w5 ⟨_, rfl, j, ac⟩
 have j := j.base q
 have hb := hb.trans (ac.mono q)
 replace q := Nat.le_trans q (ac.size)
 refine vI Try.underlying134 (j.rd).len (zG (nQ (yC ?_)))
 have hJ := h0 _ hb
 obtain ⟨K, ay⟩ : ∃ K, K = w5.heap.size := ⟨_, rfl⟩
 rw [← ay] at hJ
 have y : K ≤ w5.heap.size := by omega
 have av : w.heap.size ≤ K := by omega
 have u : ∀ g, Value.ownBlock q4 = some g → Iv w.heap.size K g := fun g hg => by have := World.ownsRow.lt j g hg; exact ⟨this.1, by omega⟩
 have b := zA b ac
 have a := zA a ac
 have c := c.below ac
 refine wH (fun m s0 w0 => ∃ (i : Nat) (t : List SpS), (m = xs.length - i) ∧ (s0.ds = []) ∧ ([0, 11, 12, 13].map s0.f = [(.func (.yield l) #[] #[]), q4, (N6 ((xs).length)), (N6 i)]) ∧ (Rd w0 encSpanS s xs) ∧ (Row w0 w.heap.size 138 3 encSpanS q4 xs) ∧ (w0.heap[bx_m]? = some (.cells [(pt v 0)].toArray 66 (0, 0))) ∧ (w0.heap[v]? = some (.cells [s, (.bool true)].toArray 136 (0, 0))) ∧ (w.heap.size ≤ w0.heap.size) ∧ (K ≤ w0.heap.size) ∧ (J K t w0) ∧ (i ≤ xs.length) ∧ (t = xs.take i)) _ ⟨0, [], rfl, zk, zk, c, j, b, a, q, y, hJ, by omega, rfl⟩ ?_
 rintro m8 s9 aj ⟨i, t, hm, ah, ax, c, j, b, a, q, y, hJ, i1, ag⟩
 refine wF ax (wR (nLt i ((xs).length) ?_ ?_))
 ·intro a3
  refine nW (zT (zZ (zB (yA (yC (wR ?_))))))
  have hz := yN xs i zo; obtain ⟨d, am⟩ := hz
  refine zEA j.rd yT i am [(I3 d.1), (I3 d.2.1), (S d.2.2)] rfl fun _ => (zN [(I3 0), (I3 0), (S [])] 138 ?_)
  intro al a5 n
  have ak := n.ge q
  have z := Ch.refl (Iv w.heap.size K) aj
  have af : (World.heap aj).size ≤ al ∨ Iv w.heap.size K al := .inl (by rw [n.num]; exact z.size)
  have r := j.new_ne n
  replace y := Nat.le_trans y (n.below.size)
  replace q := Nat.le_trans q (n.below.size)
  have p := n.here
  refine qC [(I3 d.1), (I3 d.2.1), (S d.2.2)] p ?_
  intro a8 o
  replace y := Nat.le_trans y (Nat.le_of_eq o.size.symm)
  replace q := Nat.le_trans q (Nat.le_of_eq o.size.symm)
  have b := zA b n.below
  have b := zC b o (zH b p zi)
  have a := zA a n.below
  have a := zC a o (zH a p zi)
  have p := o.here
  refine nR (zG (wB 0 p rfl (wB 1 p rfl (zr (Value.agg #[(I3 d.1), (I3 d.2.1)]) (wB 2 p rfl ?_)))))
  replace z := (z.trans2 (Ch.of_below n.below) (fun _ h => h.elim)).trans2 (Ch.of_wrote o) (fun k e => e ▸ af)
  replace hJ := ar _ _ _ _ hJ z
  clear z
  have ae : t ++ [((d.1, d.2.1, d.2.2) : SpS)] <+: xs := by rw [ag]; exact tk_pre za
  have c := Rd.ch aa (Nat.le_refl _) (c.below n.below) (Ch.of_wrote o) (fun k e => e ▸ ak)
  refine L_yield l [(Value.agg #[(I3 d.1), (I3 d.2.1)]), (S d.2.2)] zk zk (hY K t ((d.1, d.2.1, d.2.2) : SpS) _ hJ ⟨b, a, c⟩ av y ae) ?_
  rintro e a6 (⟨rfl, ap, hk, aq⟩ | ⟨rfl, au, hk⟩)
  ·refine ⟨true, rfl, ?_⟩
   have j := (j.below n.below).wrote o r
   have j := j.kp hk u
   replace q := Nat.le_trans q hk.size
   replace y := Nat.le_trans y hk.size
   replace hJ := ap
   obtain ⟨b, a, c⟩ := aq
   refine znt true (nQ (zF (zZ (zS (zB (zW (vG i 1 (zG (zR (zB ⟨_, zo, (i + 1), (t ++ [((d.1, d.2.1, d.2.2) : SpS)]), rfl, ah, zk, c, j, b, a, q, y, hJ, zo, ?_⟩))))))))))
   rw [ag]; exact tk_snoc za
  refine ⟨false, rfl, ?_⟩
  replace q := Nat.le_trans q hk.size
  replace y := Nat.le_trans y hk.size
  refine znt false (nQ (zT (yB (yG (zP (zP (yG (yJ [] (hd := ah) ?_))))))))
  exact ⟨q, Or.inr ⟨K, _, _, ae, au⟩⟩
 intro a9
 refine nW (zF (yZ (yE (yE (yP (znrm [] (hd := ah) ?_))))))
 have an : t = xs := by first | (rw [ag, List.take_of_length_le zo]; done)
 rw [an] at hJ
 exact ⟨q, Or.inl ⟨K, hJ⟩⟩
theorem c_all_S (a : Nat) (b : Value) (xs : List (Int × Int × List UInt8)) (w : World) (i : w.heap[a]? = some (.cells [b, (.bool true)].toArray 136 (0, 0))) (h : Rd w encSpanS b xs) :
  Calls Try.prog 38 #[(pt a 0)] w (Ret fun v w' => ∃ (cb0 : Nat), v = (.func (.func 72) #[] #[(pt cb0 0)]) ∧ w'.heap[cb0]? = some (.cells [(pt a 0)].toArray 66 (0, 0)) ∧ w.heap.size ≤ cb0 ∧ Below w.heap.size w w') := by
 refine wL 4 Try.func38 rfl ?_
 have f := Below.refl w.heap.size w
 refine wR (zN [(pt a 0)] 66 ?_)
 intro g j c
 have e := c.ge f.size
 have d := c.here
 have f := f.tr c.below
 exact zI (nR (zr (.func (.func 72) #[] #[(pt g 0)]) (zI (nQ (yB (yJ [(.func (.func 72) #[] #[(pt g 0)])] ⟨g, rfl, d, e, f⟩))))))
theorem c_list_S (b : Nat) (a : Value) (xs : List (Int × Int × List UInt8)) (w : World) (c : w.heap[b]? = some (.cells [a, (.bool true)].toArray 136 (0, 0))) (d : Rd w encSpanS a xs) :
  Calls Try.prog 77 #[(pt b 0)] w (Ret fun v w' => v = a ∧ Below w.heap.size w w') := by
 refine wL 9 Try.func77 rfl ?_
 have f := Below.refl w.heap.size w
 refine wR (zI (nW (wR (zG (zc (qO b a xs _ c d) ?_)))))
 rintro _ g ⟨rfl, e⟩
 have f := f.tr e
 have c := zA c e
 exact nQ (zF (zZ (zB (wR (zG (zr (pt b 0) (wB 0 c rfl (zI (nQ (yB (yJ [a] ⟨rfl, f⟩)))))))))))
theorem c_equal_S (n : Value) (a : List (Int × Int × List UInt8)) (p : Value) (b : List (Int × Int × List UInt8)) (w : World) (d : Rd w encSpanS n a) (g : Rd w encSpanS p b) (ha : a.length ≤ 4194304) (hb_ : b.length ≤ 4194304) :
  Calls Try.prog 76 #[n, p] w (Ret fun v w' => v = (.bool (decide (a = b))) ∧ Below w.heap.size w w') := by
 refine wL 26 Try.func76 rfl ?_
 have q := Below.refl w.heap.size w
 refine wR (zI (nW (wR (zG (vI Try.underlying134 (d).len (zG (vI Try.underlying134 (g).len (nNe ((a).length) ((b).length) ?_ ?_))))))))
 ·intro h1
  exact nQ (zT (wR (zI (nQ (yB (zP (yJ [(.bool false)] ⟨eb (by exact (decide_eq_false (tk_len zo)).symm), q⟩)))))))
 intro h2
 refine nQ (zF (zZ (zB (yA (wR (zG (vI Try.underlying134 (d).len (zG (nQ (yC (wH (fun m s0 w0 => ∃ (i : Nat), (m = a.length - i) ∧ (s0.ds = []) ∧ ([0, 1, 12, 13].map s0.f = [n, p, (N6 ((a).length)), (N6 i)]) ∧ (Rd w0 encSpanS n a) ∧ (Rd w0 encSpanS p b) ∧ (Below w.heap.size w w0) ∧ (i ≤ a.length) ∧ (a.length = b.length) ∧ (a.take i = b.take i)) _ ⟨0, rfl, zk, zk, d, g, q, by omega, zo, rfl⟩ ?_)))))))))))
 rintro m3 s4 w5 ⟨i, hm, s, af, d, g, q, i1, i2, i3⟩
 refine wF af (wR (nLt i ((a).length) ?_ ?_))
 ·intro h6
  refine nW (zT (zZ (zB (yA (yC (wR (zG (zI (nW (yV zk zk (zY (zY ?_))))))))))))
  have r := yN a i zo; obtain ⟨h, ae⟩ := r
  have r := (d).at (k := 3) zj ae
  obtain ⟨g9, o, ac, u⟩ := r
  refine yO (k := .i64) n i _ g9 o yT ac zo zk zk (xU g9 (o + i * 3) [(I3 h.1), (I3 h.2.1), (S h.2.2)] zk zf zf u (zY (zY ?_)))
  have r := yN b i zo; obtain ⟨c, ad⟩ := r
  have r := (g).at (k := 3) zj ad
  obtain ⟨t, j, aa, y⟩ := r
  refine yO (k := .i64) p i _ t j yT aa zo zk zk (xU t (j + i * 3) [(I3 c.1), (I3 c.2.1), (S c.2.2)] zk zf zf y (Lq_aggne [(I3 h.1), (I3 h.2.1), (S h.2.2)] [(I3 c.1), (I3 c.2.1), (S c.2.2)] (h.1 == c.1 && h.2.1 == c.2.1 && h.2.2 == c.2.2) zk zk zk (eqagg138 h.1 h.2.1 h.2.2 c.1 c.2.1 c.2.2) ?_ ?_))
  ·intro am
   refine yM ?_
   intro ap z
   replace q := q.tr z
   exact zB (zT (wR (zI (nQ (yB (yG (zP (zP (yG (zP (yJ [(.bool false)] (hd := s) ⟨eb (by exact (decide_eq_false (tk_at za za (fun e => by subst e; simp_all))).symm), q⟩)))))))))))
  intro ab
  replace ab : h.1 = c.1 ∧ h.2.1 = c.2.1 ∧ h.2.2 = c.2.2 := by simpa [and_assoc] using ab
  refine yM ?_
  intro ao l
  refine zB (zF (zZ (zS (zB (zW (vG i 1 (zG (zR ?_))))))))
  replace q := q.tr l
  replace d := d.below l
  replace g := g.below l
  refine zB ⟨_, zo, (i + 1), rfl, s, zk, d, g, q, zo, ?_, ?_⟩
  ·exact i2
  exact tk_same i3 za za (by obtain ⟨e1, e2, e3⟩ := ‹_ ∧ _ ∧ _›; exact sp_ext e1 e2 e3)
 intro ak
 exact nW (zF (yZ (yE (yE (yP (zB (wR (zI (nQ (yB (yJ [(.bool true)] (hd := s) ⟨eb (by exact (decide_eq_true (tk_all i3 i2 zo)).symm), q⟩)))))))))))
end Go.Proofs.Ythjgnnfonofgkaa
end

/- === Wgliv === -/
section
/- Walks, written by my program walk.py out of the specification gliv.py: each theorem says what one function returns and that it leaves memory as it was. -/
namespace Go.Proofs.Ythjgnnfonofgkaa
open Go Go.RowKit Go.FK
set_option maxHeartbeats 4000000
set_option maxRecDepth 100000
theorem xF (a0 : Int) (a1 : Int) (c0 : Int) (c1 : Int) (w : World) : (Op.equalIn 10000 29 (.agg #[.int .i32 a0, .int .i32 a1]) (.agg #[.int .i32 c0, .int .i32 c1])).run Try.prog w = .ok (a0 == c0 && a1 == c1) w := by
 have f : Try.prog.underlying 29 = some (.struct (Try.prog.fieldsOf 29)) := by kernel_rfl
 have d : Try.prog.stoodInHeld 29 = false := by kernel_rfl
 rw [show (10000 : Nat) = 9999 + 1 from rfl, run_equalIn_agg w 9999 29 _ _ f d]
 simp only [Program.fieldsOf, Try.underlying29]
 have c := Try.isAgg21
 have b := Try.sizeOf21
 have a := Try.underlying21
 try simp only [S]
 go_simp
 by_cases e : a0 = c0 <;> by_cases g : a1 = c1 <;> simp [e, g]
theorem c_lives (w : World) {m_ml : Int} (hml : w.cell? ⟨0, 0, none⟩ = some (I6 m_ml)) :
  Calls Try.prog 8 #[] w (Ret fun v w' => v = (.bool true) ∧ Below w.heap.size w w') := by
 refine enterM (args := []) Try.func8 rfl (zk : _ = 81) zk ?_
 have m := Below.refl w.heap.size w
 refine wR (zN [(.bool false)] 4 ?_)
 intro b1 w2 bm
 have bv := bm.ge m.size
 have b := bm.here
 refine nR (zc (qZ  _ ) ?_)
 rintro _ w4 ⟨o, rfl, a, q, bs⟩
 have m := m.tr bm.below
 replace q := Nat.le_trans m.size q
 have m := m.tr bs
 refine zI (nW (wR (zG (zr (.bool false) (zG (zw (zG (zw (zr (Value.agg #[(I3 16), (I3 25)]) (zw (zc (calls_as (c_put_S o (.slice none 0 0) [] 16 25 ([97] : List UInt8) w.heap.size _ m.size a q (Row.nil _ w.heap.size 138 3 encSpanS) (by simp [RiseG]) zo zo) (zk : _ = fun v w' => ∃ q0 : Value, v = (I6 0) ∧ w'.heap[o]? = some (.cells [q0, (.bool true)].toArray 136 (0, 0)) ∧ Row w' w.heap.size 138 3 encSpanS q0 ([(16, 25, [97])] : List SpS) ∧ (∀ g, Value.ownBlock q0 = some g → w4.heap.size ≤ g ∨ (Dm o (.slice none 0 0)) g) ∧ Ch (Dm o (.slice none 0 0)) w4 w')) ?_)))))))))))
 rintro _ w9 ⟨q8, rfl, bt, a4, cb, bd⟩
 have m := bd.below m m.size (fun k e => e.elim (fun x => x ▸ q) (fun x => by simp [Value.ownBlock] at x))
 have b := zA b bs
 have b := yH b bd (zH b a zi) (by simp [Value.ownBlock])
 have a := bt
 refine zw (zr (.bool false) (zpF (zG (zw (zG (zw (zr (Value.agg #[(I3 32), (I3 41)]) (zw (zc (calls_as (c_put_S o q8 ([(16, 25, [97])] : List SpS) 32 41 ([97] : List UInt8) w.heap.size _ m.size a q a4 (by simp [RiseG]) zo zo) (zk : _ = fun v w' => ∃ q0 : Value, v = (I6 0) ∧ w'.heap[o]? = some (.cells [q0, (.bool true)].toArray 136 (0, 0)) ∧ Row w' w.heap.size 138 3 encSpanS q0 ([(16, 25, [97]), (32, 41, [97])] : List SpS) ∧ (∀ g, Value.ownBlock q0 = some g → w9.heap.size ≤ g ∨ (Dm o q8) g) ∧ Ch (Dm o q8) w9 w')) ?_)))))))))
 rintro _ b2 ⟨bf, rfl, br, ap, ce, a8⟩
 have m := a8.below m m.size (fun k e => e.elim (fun x => x ▸ q) (fun x => (World.ownsRow.lt a4 k x).1))
 have b := yH b a8 (zH b a zi) (a4.ne b zi)
 have a := br
 refine zw (zr (.bool false) (zpF (zG (zw (zG (zw (zr (Value.agg #[(I3 26), (I3 31)]) (zw (zc (calls_as (qY o bf ([(16, 25, [97]), (32, 41, [97])] : List SpS) 26 31 ([97] : List UInt8) w.heap.size _ m.size a q ap (by simp [RiseG]) zo zo) (zk : _ = fun v w' => ∃ q0 : Value, v = (I6 0) ∧ w'.heap[o]? = some (.cells [q0, (.bool true)].toArray 136 (0, 0)) ∧ Row w' w.heap.size 138 3 encSpanS q0 ([(16, 41, [97])] : List SpS) ∧ (∀ g, Value.ownBlock q0 = some g → b2.heap.size ≤ g ∨ (Dm o bf) g) ∧ Ch (Dm o bf) b2 w')) ?_)))))))))
 rintro _ bn ⟨bg, rfl, bq, ao, cc, ba⟩
 have m := ba.below m m.size (fun k e => e.elim (fun x => x ▸ q) (fun x => (World.ownsRow.lt ap k x).1))
 have b := yH b ba (zH b a zi) (ap.ne b zi)
 have a := bq
 refine zw (zr (.bool false) (zpF (zG (zw (zG (zw (zr (Value.agg #[(I3 21), (I3 21)]) (zw (zc (calls_as (c_put_S o bg ([(16, 41, [97])] : List SpS) 21 21 ([98] : List UInt8) w.heap.size _ m.size a q ao (by simp [RiseG]) zo zo) (zk : _ = fun v w' => ∃ q0 : Value, v = (I6 42) ∧ w'.heap[o]? = some (.cells [q0, (.bool true)].toArray 136 (0, 0)) ∧ Row w' w.heap.size 138 3 encSpanS q0 ([(16, 41, [97])] : List SpS) ∧ (∀ g, Value.ownBlock q0 = some g → bn.heap.size ≤ g ∨ (Dm o bg) g) ∧ Ch (Dm o bg) bn w')) ?_)))))))))
 rintro _ bu ⟨aj, rfl, bo, d, ca, a9⟩
 have m := a9.below m m.size (fun k e => e.elim (fun x => x ▸ q) (fun x => (World.ownsRow.lt ao k x).1))
 have b := yH b a9 (zH b a zi) (ao.ne b zi)
 have a := bo
 refine zw (zr (.bool false) (zpF (nQ (zF (zZ (zB (wR (zG (zc (calls_as (c_at_S o aj ([(16, 41, [97])] : List SpS) 31 _ a d.rd (by simp [RiseG])) (zk : _ = fun v w' => v = (.tuple #[(S [97]), (.bool true)]) ∧ Below bu.heap.size bu w')) ?_)))))))))
 rintro _ bz ⟨rfl, au⟩
 have m := m.tr au
 refine zG (zr (S [97]) (zr (.bool true) (zI (zI (nR (zc (calls_as (c_points_Span ([48, 48, 49, 48, 46, 46, 48, 48, 50, 57] : List UInt8) _ (gcell_below hml m) (by decide)) (zk : _ = fun v w' => v = (.tuple #[(Value.agg #[(I3 16), (I3 41)]), (I6 0)]) ∧ Below bz.heap.size bz w')) ?_))))))
 rintro _ cu ⟨rfl, aq⟩
 refine zG (zr (Value.agg #[(I3 16), (I3 41)]) (zr (I6 0) (zN [(I3 0), (I3 0)] 29 ?_)))
 intro bi cx af
 have m := m.tr aq
 have bw := af.ge m.size
 have j := af.here
 refine qC [(I3 16), (I3 41)] j ?_
 intro ck an
 have b := zA (zA (zA b au) aq) af.below
 have b := zC b an (zH b j zi)
 have a := zA (zA (zA a au) aq) af.below
 have a := zC a an (zH a j zi)
 have d := ((d.below au).below aq).below af.below
 have d := d.wrote an (d.ne j zi)
 have j := an.here
 refine zI (nR (zN [(I6 0)] 3 ?_))
 intro bh cv ad
 have m := (m.tr af.below).trans (an.below bw)
 have bc := ad.ge m.size
 have i := ad.here
 refine z1 0 (I6 0) [(I6 0)] i ?_
 intro cj ae
 have b := zA b ad.below
 have b := zC b ae (zH b i zi)
 have a := zA a ad.below
 have a := zC a ae (zH a i zi)
 have j := zA j ad.below
 have j := zC j ae (zH j i zi)
 have d := d.below ad.below
 have d := d.wrote ae (d.ne i zi)
 have i := ae.here
 refine nW (wR (zG (zc (c_all_S o aj ([(16, 41, [97])] : List SpS) _ a d.rd) ?_)))
 rintro _ u ⟨ai, rfl, f, ar, ag⟩
 have m := (m.tr ad.below).trans (ae.below bc)
 replace ar := Nat.le_trans m.size ar
 refine nQ (yC ?_)
 have b := zA b ag
 have ah : b1 < u.heap.size := yD b
 have a := zA a ag
 have ab : o < u.heap.size := yD a
 have j := zA j ag
 have al : bi < u.heap.size := yD j
 have i := zA i ag
 have ak : bh < u.heap.size := yD i
 have y : ai < u.heap.size := yD f
 have m := m.tr ag
 have a1 := m.size
 have ci := m
 have d := d.below ag
 refine wQ 72 [(pt ai 0)] ([(16, 41, [97])] : List SpS) zk (fun _ _ => rfl) (it_all_S ai o aj ([(16, 41, [97])] : List SpS) (by decide)) ⟨f, a, d.rd⟩ ((fun D A B h hc hd => ⟨zL h.1 hc (fun h => Nat.not_lt.2 (hd _ h) y), zL h.2.1 hc (fun h => Nat.not_lt.2 (hd _ h) ab), Rd.ch d.rd (Nat.le_refl _) h.2.2 hc hd⟩)) (by intro x; rfl) (fun K a6 A => ∃ (n : Nat), (A.heap[b1]? = some (.cells [(.bool false)].toArray 4 (0, 0))) ∧ (A.heap[o]? = some (.cells [aj, (.bool true)].toArray 136 (0, 0))) ∧ (A.heap[bi]? = some (.cells [(I3 16), (I3 41)].toArray 29 (0, 0))) ∧ (A.heap[bh]? = some (.cells [(N6 n)].toArray 3 (0, 0))) ∧ (A.heap[ai]? = some (.cells [(pt o 0)].toArray 66 (0, 0))) ∧ (Row A w.heap.size 138 3 encSpanS aj ([(16, 41, [97])] : List SpS)) ∧ (∀ g, Value.ownBlock aj = some g → ¬ Iv u.heap.size K g) ∧ (Below w.heap.size w A) ∧ (n = a6.length)) (fun K c a6 A => False) ?_ ?_ ?_ ?_ ?_ ?_
 ·intro A hA
  exact ⟨0, zA b hA, zA a hA, zA j hA, zA i hA, zA f hA, d.below hA, qE d _, m.trans (hA.mono m.size), by rfl⟩
 ·rintro K a6 A B ⟨n, b, a, j, i, f, d, p, m, pn⟩ hc
  exact ⟨n, zL b hc (fun h => Nat.not_lt.2 h.1 ah), zL a hc (fun h => Nat.not_lt.2 h.1 ab), zL j hc (fun h => Nat.not_lt.2 h.1 al), zL i hc (fun h => Nat.not_lt.2 h.1 ak), zL f hc (fun h => Nat.not_lt.2 h.1 y), d.ch hc p, p, hc.below m m.size (fun k h => Nat.le_trans a1 h.1), pn⟩
 ·intro K c _ A B h hc; exact h.elim
 ·intro l K a6 x A hi hN cq hK bb
  obtain ⟨n, b, a, j, i, f, d, p, m, pn⟩ := hi
  have hk := Kp.refl (u.heap.size) K A
  have bj : ¬ Iv (u.heap.size) K b1 := fun h => Nat.not_lt.2 h.1 ah
  have a7 : ¬ Iv (u.heap.size) K o := fun h => Nat.not_lt.2 h.1 ab
  have bk : ¬ Iv (u.heap.size) K bi := fun h => Nat.not_lt.2 h.1 al
  have az : ¬ Iv (u.heap.size) K bh := fun h => Nat.not_lt.2 h.1 ak
  have a3 : ¬ Iv (u.heap.size) K ai := fun h => Nat.not_lt.2 h.1 y
  have f := hN.1
  have a := hN.2.1
  have hx := tk_single bb
  have co := tk_lt bb
  have cm : (([(16, 41, [97])] : List SpS)).length = 1 := rfl
  refine wR (zN [(I3 0), (I3 0)] 29 ?_)
  intro b7 c0 r
  have av := qB (yD j) r
  have bx := r.ge m.size
  have ax : ¬ Iv u.heap.size K b7 := fun h => by have := h.2; have := r.num; omega
  replace hk := hk.ch (Ch.of_below r.below) hK (fun _ h => h.elim)
  replace hK := Nat.le_trans hK (r.below.size)
  have s := r.here
  refine qC [(I3 x.1), (I3 x.2.1)] s ?_
  intro cy t
  replace hk := hk.ch (Ch.of_wrote t) hK (fun k e h => ax (e ▸ h))
  replace hK := Nat.le_trans hK (Nat.le_of_eq t.size.symm)
  have b := zA b r.below
  have b := zC b t (zH b s zi)
  have a := zA a r.below
  have a := zC a t (zH a s zi)
  have i := zA i r.below
  have i := zC i t (zH i s zi)
  have f := zA f r.below
  have f := zC f t (zH f s zi)
  have d := d.below r.below
  have d := d.wrote t (d.ne s zi)
  have s := t.here
  refine nQ (zW (zI (zR (zB ⟨hk, ?_⟩))))
  intro b8 aa
  have m := (m.tr r.below).trans (t.below bx)
  have m := aa.below m m.size (fun k h => Nat.le_trans a1 h.1)
  replace hK := Nat.le_trans hK aa.size
  replace hk := Kp.refl (u.heap.size) K b8
  have j := zL (zC (zA j r.below) t av) aa bk
  have s := zL s aa ax
  refine yC (yA (wR (wG s (wG j (L_run (.bool false) (by subst hx; kernel_rfl) zk (zG (zw (zG (zw (L_sne x.2.2 ([97] : List UInt8) rfl zk zk ?_ ?_))))))))))
  ·intro b6
   exfalso; exact b6 (by rw [hx])
  intro cr
  have i := zL i aa az
  refine zpF (nQ (zF (zZ (zB (zW (zO 0 i rfl (vG n 1 (z1 0 (N6 (n + 1)) [(N6 (n + 1))] i ?_))))))))
  intro ct z
  replace hk := hk.ch (Ch.of_wrote z) hK (fun k e h => az (e ▸ h))
  replace hK := Nat.le_trans hK (Nat.le_of_eq z.size.symm)
  have b := zL b aa bj
  have b := zC b z (zH b i zi)
  have a := zL a aa a7
  have a := zC a z (zH a i zi)
  have j := zC j z (zH j i zi)
  have f := zL f aa a3
  have f := zC f z (zH f i zi)
  have d := d.ch aa p
  have d := d.wrote z (d.ne i zi)
  have i := z.here
  refine zR (zS ?_)
  have m := m.trans (z.below bc)
  refine yU hk ⟨f, a, d.rd⟩ ⟨(n + 1), b, a, j, i, f, d, p, m, ?_⟩
  simp [pn]
 ·intro K A hi cz ac
  obtain ⟨n, b, a, j, i, f, d, p, m, pn⟩ := hi
  refine zS (zB (wR (zG (qN ([97] : List UInt8) ([97] : List UInt8) (by rfl) zk zk (zG (zw (zG (xN (zG (zw (zG (zw (zr (.bool true) (xN (zG (zw (zO 0 i rfl (zw (nEq n 1 ?_ ?_)))))))))))))))))))
  ·intro cl
   refine xN (zG (zw (zG (zw (zc (calls_as (c_len_S o aj ([(16, 41, [97])] : List SpS) _ a d.rd) (zk : _ = fun v w' => v = (I6 1) ∧ Below A.heap.size A w')) ?_)))))
   rintro _ bp ⟨rfl, am⟩
   have a := zA a am
   have d := d.below am
   refine zw (zr (.bool true) (xN (zG (zw (zG (zw (zc (calls_as (c_size_S o aj ([(16, 41, [97])] : List SpS) _ a d.rd (by simp [RiseG])) (zk : _ = fun v w' => v = (I6 26) ∧ Below bp.heap.size bp w')) ?_)))))))
   rintro _ cs ⟨rfl, a2⟩
   have b := zA (zA b am) a2
   refine zw (zr (.bool true) (xN (z1 0 (.bool true) [(.bool true)] b ?_)))
   intro cp ay
   have ac := zA (zA ac am) a2
   have ac := zC ac ay (zH ac b zi)
   have b := ay.here
   refine nQ (yB (wC (ds := [⟨.collected u.heap.size, #[]⟩]) zk (xC ac ?_)))
   intro cw be
   have b := zC b be (zH b ac zi)
   refine wW [.cell 0 4] [(.bool true)] rfl ⟨⟨⟨b1, 0, none⟩, zk, load_one zk (zK b rfl)⟩, trivial⟩ ?_
   have m := (((m.tr am).tr a2).trans (ay.below bv)).trans (be.below a1)
   exact ⟨rfl, m⟩
  intro cn
  exfalso; simp at pn; omega
 intro K c _ x A _ h; exact h.elim
end Go.Proofs.Ythjgnnfonofgkaa
end

/- === FKaf === -/
section
/- FKaf: the rest of a division of whole numbers, below zero too. My own text. -/
namespace Go.FK
open Go Go.RowKit
section
variable {r : Option Nat} {P : Program} {n : Nat} {Q : Post} {s : Fm} {w : World} {ops : Array Oper} {rest : List Oper}
variable {d : Option Tmp} {ty : TypeId} {pos : String} {af : Array Edge}
end
end Go.FK
end
