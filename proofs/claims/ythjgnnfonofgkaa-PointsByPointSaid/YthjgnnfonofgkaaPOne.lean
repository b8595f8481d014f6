/- POne: ranges put one by one, and those that were taken laid the other way round: the same map. My own text. -/
import Derived.Test.YthjgnnfonofgkaaPFold
import Derived.Test.YthjgnnfonofgkaaPGE
set_option linter.unusedVariables false
namespace Go.FK
open Go Go.RowKit
abbrev Rg := Int × Int
def encRg (x : Rg) : List Value := [.int .i32 x.1, .int .i32 x.2]
def valA (val : List Bool) (k : Int) : Bool := val.getD k.toNat false
def tookIn (l : List Rg) (x k : Int) : Bool := match l[k.toNat]? with | some r => decide (r.1 ≤ x ∧ x ≤ r.2) | none => false
def valT (l : List Rg) (val : List Bool) (T : List Int) (x : Int) : Option Bool := (T.find? (tookIn l x)).map (valA val)
theorem valA_in {val : List Bool} {i : Nat} {b : Bool} (h : val[i]? = some b) : valA val i = b := by unfold valA; rw [Int.toNat_natCast, List.getD_eq_getElem?_getD, h]; rfl
theorem valA_out {val : List Bool} {i : Nat} (h : val.length ≤ i) : valA val i = false := by unfold valA; rw [Int.toNat_natCast, List.getD_eq_getElem?_getD, List.getElem?_eq_none h]; rfl
theorem valA_in' {val : List Bool} {k : Int} {i : Nat} {b : Bool} (hk : k.toNat = i) (h : val[i]? = some b) : valA val k = b := by unfold valA; rw [hk, List.getD_eq_getElem?_getD, h]; rfl
theorem valA_out' {val : List Bool} {k : Int} (h : val.length ≤ k.toNat) : valA val k = false := by unfold valA; rw [List.getD_eq_getElem?_getD, List.getElem?_eq_none h]; rfl
/-- What is known behind i ranges: the map, and the numbers of those that were taken. -/
structure OneI (l : List Rg) (val : List Bool) (i : Nat) (A : List SpB) (T : List Int) : Prop where
  ok : MapOk eqB A
  may : ∀ k ∈ T, 0 ≤ k ∧ k < i ∧ ∃ r, l[k.toNat]? = some r ∧ mayG r.1 r.2 = true
  same : ∀ x, valG A x = valT l val T x
theorem one_zero (l : List Rg) (val : List Bool) : OneI l val 0 [] [] := ⟨MapOk.nil, (fun k hk => by cases hk), fun x => rfl⟩
section
variable {l : List Rg} {val : List Bool} {i : Nat} {A B : List SpB} {T : List Int} {r : Rg} {b : Bool}
theorem putE_ok {V : Type} {xs : List (SpG V)} {lo hi : Int} (h : putE xs lo hi = 0) : mayG lo hi = true ∧ metG xs lo hi = none := by
  unfold putE at h
  split at h
  · exact absurd h (by decide)
  · next h1 =>
    split at h
    · exact absurd h (by decide)
    · next h2 => exact ⟨by simpa using h1, by simpa using h2⟩
theorem putE_no {V : Type} {eq : V → V → Bool} {xs : List (SpG V)} {lo hi : Int} {v : V} (h : putE xs lo hi ≠ 0) : putF eq xs lo hi v = xs := by
  unfold putE at h
  unfold putF
  split
  · rfl
  · next h1 =>
    rw [if_neg h1] at h
    split
    · rfl
    · next h2 => rw [if_neg h2] at h; exact absurd rfl h
theorem putF_ok {V : Type} {eq : V → V → Bool} {xs : List (SpG V)} {lo hi : Int} {v : V} (h : putE xs lo hi = 0) : putF eq xs lo hi v = layG eq xs lo hi v := by
  have h1 := putE_ok h
  unfold putF
  rw [if_neg (by rw [h1.1]; decide), if_neg (by rw [h1.2]; simp)]
theorem met_none {V : Type} {xs : List (SpG V)} (hr : RiseG 0 xs) {lo hi x : Int} (hm : mayG lo hi = true) (h : metG xs lo hi = none) (h1 : lo ≤ x) (h2 : x ≤ hi) : valG xs x = none := by
  unfold metG at h
  rw [if_neg (by rw [hm]; decide)] at h
  have hl := fromG_low xs lo
  have e := List.take_append_drop (fromG xs lo) xs
  have hA : valG (xs.take (fromG xs lo)) x = none := by
    unfold valG
    rw [List.find?_eq_none.2 (fun t ht => by rw [inS_no (by have := hl t ht; omega)]; decide)]; rfl
  rw [← e, valG_app, hA, Option.none_or]
  have hr2 : RiseG 0 (xs.drop (fromG xs lo)) := by
    have := hr
    rw [← e] at this
    exact (rise_app.1 this).2.1
  cases hd : xs.drop (fromG xs lo) with
  | nil => rfl
  | cons s m =>
    have hs : xs[fromG xs lo]? = some s := by rw [← List.head?_drop, hd]; rfl
    rw [hs] at h
    simp only at h
    have h3 : ¬ s.1 ≤ hi := fun c => by rw [if_pos c] at h; cases h
    rw [hd] at hr2
    exact RiseG.low (l := s :: m) (b := s.1) ⟨Int.le_refl _, hr2.2⟩ (by omega)
theorem one_no (h : OneI l val i A T) (he : putE A r.1 r.2 ≠ 0) (b : Bool) : OneI l val (i + 1) (putF eqB A r.1 r.2 b) T := by
  rw [putE_no he]
  exact ⟨h.ok, fun k hk => by obtain ⟨h1, h2, h3⟩ := h.may k hk; exact ⟨h1, by omega, h3⟩, h.same⟩
theorem one_ok (h : OneI l val i A T) (hs : l[i]? = some r) (he : putE A r.1 r.2 = 0) (hb : valA val i = b) : OneI l val (i + 1) (putF eqB A r.1 r.2 b) (T ++ [(i : Int)]) := by
  have hp := putE_ok he
  refine ⟨h.ok.put eqB_law _ _ _, fun k hk => ?_, fun x => ?_⟩
  · rcases List.mem_append.1 hk with hk | hk
    · obtain ⟨h1, h2, h3⟩ := h.may k hk; exact ⟨h1, by omega, h3⟩
    · obtain rfl := List.mem_singleton.1 hk
      exact ⟨by omega, by omega, r, by rw [Int.toNat_natCast]; exact hs, hp.1⟩
  · rw [putF_ok he, layG_val eqB_law h.ok.rise hp.1 x, h.same x]
    unfold valT
    rw [List.find?_append]
    have ht : tookIn l x i = decide (r.1 ≤ x ∧ x ≤ r.2) := by unfold tookIn; rw [Int.toNat_natCast, hs]
    by_cases hx : r.1 ≤ x ∧ x ≤ r.2
    · rw [if_pos hx]
      have h0 : valT l val T x = none := by rw [← h.same x]; exact met_none h.ok.rise hp.1 hp.2 hx.1 hx.2
      unfold valT at h0
      rw [Option.map_eq_none_iff] at h0
      rw [h0, List.find?_cons, ht, decide_eq_true hx]
      simp [hb]
    · rw [if_neg hx, List.find?_cons, ht, decide_eq_false hx]
      simp
/-- What is known when those behind place j are laid. -/
structure TwoI (l : List Rg) (val : List Bool) (T : List Int) (j : Nat) (B : List SpB) : Prop where
  ok : MapOk eqB B
  same : ∀ x, valG B x = valT l val (T.drop j) x
theorem two_zero : TwoI l val T T.length [] := ⟨MapOk.nil, fun x => by rw [List.drop_length]; rfl⟩
theorem one_may (h : OneI l val i A T) {j : Nat} {k : Int} (hk : T[j]? = some k) : 0 ≤ k ∧ k < i := ⟨(h.may k (List.mem_of_getElem? hk)).1, (h.may k (List.mem_of_getElem? hk)).2.1⟩
theorem one_mayG (h : OneI l val i A T) {j m : Nat} {k : Int} (hk : T[j]? = some k) (hm : k.toNat = m) (hr : l[m]? = some r) : mayG r.1 r.2 = true := by
  obtain ⟨_, _, r', h1, h2⟩ := h.may k (List.mem_of_getElem? hk)
  rw [hm, hr] at h1; cases h1; exact h2
theorem layE_ok {lo hi : Int} (h : mayG lo hi = true) : layE lo hi = 0 := by unfold layE; rw [if_neg (by rw [h]; decide)]
theorem two_step (h : OneI l val i A T) {j m : Nat} {k : Int} (h2 : TwoI l val T (j + 1) B) (hk : T[j]? = some k) (hm : k.toNat = m) (hr : l[m]? = some r) (hb : valA val k = b) : TwoI l val T j (layF eqB B r.1 r.2 b) := by
  have hmay := one_mayG h hk hm hr
  refine ⟨h2.ok.lay eqB_law _ _ _, fun x => ?_⟩
  rw [layF_val eqB_law h2.ok.rise hmay, h2.same x]
  have e : T.drop j = k :: T.drop (j + 1) := by
    obtain ⟨hlt, rfl⟩ := List.getElem?_eq_some_iff.1 hk
    exact List.drop_eq_getElem_cons hlt
  rw [e]
  unfold valT
  have ht : tookIn l x k = decide (r.1 ≤ x ∧ x ≤ r.2) := by unfold tookIn; rw [hm, hr]
  rw [List.find?_cons, ht]
  by_cases hx : r.1 ≤ x ∧ x ≤ r.2
  · rw [if_pos hx, decide_eq_true hx]; simp [hb]
  · rw [if_neg hx, decide_eq_false hx]
theorem one_two (h : OneI l val i A T) (h2 : TwoI l val T 0 B) : A = B := MapOk.one eqB_law h.ok h2.ok fun x => by rw [h.same, h2.same, List.drop_zero]
end
/-- What a stretch's first code point has. -/
theorem at_first {V : Type} {z : V} {xs : List (SpG V)} (hr : RiseG 0 xs) {i : Nat} {s : SpG V} (hs : xs[i]? = some s) : atG z xs s.1 = (s.2.2, true) := by
  have h := hr.at hs
  unfold atG
  rw [if_pos (by simp [inR]; omega), mem_val hr (List.mem_of_getElem? hs) ⟨Int.le_refl _, h.2.1⟩]; rfl
theorem at_last {V : Type} {z : V} {xs : List (SpG V)} (hr : RiseG 0 xs) {i : Nat} {s : SpG V} (hs : xs[i]? = some s) : atG z xs s.2.1 = (s.2.2, true) := by
  have h := hr.at hs
  unfold atG
  rw [if_pos (by simp [inR]; omega), mem_val hr (List.mem_of_getElem? hs) ⟨h.2.1, Int.le_refl _⟩]; rfl
def rgs {V : Type} (xs : List (SpG V)) : List Rg := xs.map fun s => (s.1, s.2.1)
theorem rgs_app {V : Type} (pre : List (SpG V)) (x : SpG V) : rgs pre ++ [(x.1, x.2.1)] = rgs (pre ++ [x]) := by unfold rgs; rw [List.map_append]; rfl
theorem rgs_rise {V : Type} {xs : List (SpG V)} (hr : RiseG 0 xs) {i j : Nat} {r s : Rg} (hij : i < j) (h1 : (rgs xs)[i]? = some r) (h2 : (rgs xs)[j]? = some s) : r.2 < s.1 := by
  unfold rgs at h1 h2
  rw [List.getElem?_map, Option.map_eq_some_iff] at h1 h2
  obtain ⟨a, ha, rfl⟩ := h1
  obtain ⟨b, hb, rfl⟩ := h2
  exact rise_lt hr hij ha hb
end Go.FK
