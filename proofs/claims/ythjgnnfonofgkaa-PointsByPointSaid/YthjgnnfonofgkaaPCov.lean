/- PCov: stretches and gaps together are each code point once; a list of values per code point held against a map. My own text. -/
import Derived.Test.YthjgnnfonofgkaaPGap
set_option linter.unusedVariables false
namespace Go.FK
section
variable {V : Type} {xs pre : List (SpG V)} {x : SpG V} {bt : Int} {bk : Nat} {gp : List Rg} {g : Rg}
theorem rise_pre' {xs pre t : List (SpG V)} (hr : RiseG 0 xs) (h : pre ++ t = xs) : RiseG 0 pre := by subst h; exact (rise_app.1 hr).1
theorem gaps_rest : ∀ (t p : List (SpG V)), RiseG 0 (p ++ t) → ∃ R, gapsG (p ++ t) = gapsP p ++ R ∧ ∀ r ∈ R, nextP p ≤ r.1
  | [], p, _ => by
    rw [List.append_nil]
    refine ⟨_, rfl, fun r hr => ?_⟩
    split at hr
    · obtain rfl := List.mem_singleton.1 hr; exact Int.le_refl _
    · cases hr
  | s :: t, p, h => by
    have h2 : RiseG 0 ((p ++ [s]) ++ t) := by rw [List.append_assoc]; exact h
    obtain ⟨R, h3, h4⟩ := gaps_rest t (p ++ [s]) h2
    have hp : p ++ [s] <+: p ++ s :: t := ⟨t, by rw [List.append_assoc]; rfl⟩
    have hn := next_le h hp
    have hs := h.pre hp
    rw [List.append_assoc] at h3
    rw [gaps_snoc] at h3
    rw [next_snoc] at h4
    split at h3
    · refine ⟨(nextP p, s.1 - 1) :: R, by rw [show p ++ s :: t = p ++ ([s] ++ t) from rfl, h3, List.append_assoc]; rfl, fun r hr => ?_⟩
      rcases List.mem_cons.1 hr with rfl | hr
      · exact Int.le_refl _
      · have := h4 r hr; omega
    · exact ⟨R, h3, fun r hr => by have := h4 r hr; omega⟩
theorem gaps_le (pre t : List (SpG V)) : (gapsP pre).length ≤ (gapsG (pre ++ t)).length := by
  unfold gapsG; rw [List.length_append]; have := (gaps_mono pre t).length_le; omega
theorem gap_ge {p : List (SpG V)} (hr : RiseG 0 xs) (hp : p <+: xs) {i : Nat} (hg : (gapsG xs)[i]? = some g) (hi : (gapsP p).length ≤ i) : nextP p ≤ g.1 := by
  obtain ⟨t, rfl⟩ := hp
  obtain ⟨R, h1, h2⟩ := gaps_rest t p hr
  rw [h1, List.getElem?_append_right hi] at hg
  exact h2 g (List.mem_of_getElem? hg)
theorem gap_here (hr : RiseG 0 xs) (hp : pre ++ [x] <+: xs) (hlt : nextP pre < x.1) : (gapsG xs)[(gapsP pre).length]? = some (nextP pre, x.1 - 1) := by
  have h := gaps_pre hr hp rfl hlt
  obtain ⟨t, ht⟩ := h
  rw [← ht, List.append_assoc, List.getElem?_append_right (Nat.le_refl _), Nat.sub_self]; rfl
theorem gaps_lenP (pre : List (SpG V)) : (gapsP pre).length ≤ pre.length := by
  rcases List.eq_nil_or_concat pre with rfl | ⟨A, s, rfl⟩
  · exact Nat.le_refl _
  · rw [List.concat_eq_append, gaps_snoc]
    have := gaps_lenP A
    split
    · rw [List.length_append, List.length_append]; simp; omega
    · rw [List.length_append]; omega
termination_by pre.length
decreasing_by simp_all
theorem gaps_len (xs : List (SpG V)) : (gapsG xs).length ≤ xs.length + 1 := by
  unfold gapsG; rw [List.length_append]; have := gaps_lenP xs; split <;> simp <;> omega
def covI (xs pre : List (SpG V)) (x : SpG V) (bk : Nat) (bt : Int) : Prop := (bk = (gapsP pre).length ∧ bt = nextP pre) ∨ (bk = (gapsP pre).length + 1 ∧ bt = x.1 ∧ nextP pre < x.1)
theorem cov_step (hr : RiseG 0 xs) (hp : pre ++ [x] <+: xs) (w : covI xs pre x bk bt) (hgp : gp = gapsG xs) (hg : gp[bk]? = some g) (he : g.1 = bt) : nextP pre < x.1 ∧ bk = (gapsP pre).length ∧ g.1 = nextP pre ∧ g.2 = x.1 - 1 := by
  subst hgp
  have hx := hr.pre hp
  have hn := next_le hr hp
  rcases w with ⟨h1, h2⟩ | ⟨h1, h2, h3⟩
  · by_cases hlt : nextP pre < x.1
    · have h4 := gap_here hr hp hlt
      rw [h1, h4] at hg; cases hg
      exact ⟨hlt, h1, rfl, rfl⟩
    · exfalso
      have h5 : (gapsP (pre ++ [x])).length ≤ bk := by rw [gaps_snoc, if_neg hlt]; omega
      have h4 := gap_ge hr hp hg h5
      rw [next_snoc] at h4; omega
  · exfalso
    have h5 : (gapsP (pre ++ [x])).length ≤ bk := by rw [gaps_snoc, if_pos h3, List.length_append]; simp; omega
    have h4 := gap_ge hr hp hg h5
    rw [next_snoc] at h4; omega
theorem cov_exit1 (hr : RiseG 0 xs) (hp : pre ++ [x] <+: xs) (w : covI xs pre x bk bt) (hgp : gp = gapsG xs) (he : gp.length ≤ bk) : bt = x.1 := by
  subst hgp
  have hn := next_le hr hp
  rcases w with ⟨h1, h2⟩ | ⟨h1, h2, h3⟩
  · by_cases hlt : nextP pre < x.1
    · exfalso
      have h4 := (List.getElem?_eq_some_iff.1 (gap_here hr hp hlt)).1
      omega
    · omega
  · exact h2
theorem cov_exit2 (hr : RiseG 0 xs) (hp : pre ++ [x] <+: xs) (w : covI xs pre x bk bt) (hgp : gp = gapsG xs) (hg : gp[bk]? = some g) (he : g.1 ≠ bt) : bt = x.1 := by
  subst hgp
  have hn := next_le hr hp
  rcases w with ⟨h1, h2⟩ | ⟨h1, h2, h3⟩
  · by_cases hlt : nextP pre < x.1
    · exfalso
      have h4 := gap_here hr hp hlt
      rw [h1, h4] at hg; cases hg
      exact he h2.symm
    · omega
  · exact h2
theorem cov_len (w : covI xs pre x bk bt) (he : x.1 = bt) : bk = (gapsP (pre ++ [x])).length := by
  rw [gaps_snoc]
  rcases w with ⟨h1, h2⟩ | ⟨h1, h2, h3⟩
  · rw [if_neg (by omega)]; exact h1
  · rw [if_pos h3, List.length_append]; simp; omega
theorem cov_end (hgp : gp = gapsG xs) (hg : gp[(gapsP xs).length]? = some g) : g.1 = nextP xs ∧ g.2 = 1114111 := by
  subst hgp
  unfold gapsG at hg
  rw [List.getElem?_append_right (Nat.le_refl _), Nat.sub_self] at hg
  split at hg
  · cases hg; exact ⟨rfl, rfl⟩
  · cases hg
theorem cov_fin (hr : RiseG 0 xs) : ((gapsG xs).length = (gapsP xs).length ∧ nextP xs = 1114112) ∨ ((gapsG xs).length = (gapsP xs).length + 1 ∧ nextP xs ≤ 1114111) := by
  have := next_bd hr
  unfold gapsG; rw [List.length_append]
  split
  · exact .inr ⟨rfl, by assumption⟩
  · exact .inl ⟨rfl, by omega⟩
end
section
variable {V : Type} {xs : List (SpG V)} {gp : List Rg} {kk : Nat} {a : Int}
theorem fin_at (hr : RiseG 0 xs) (hg : gp = gapsG xs) (hk : kk = (gapsP xs).length) (ha : a = nextP xs) (h : gp.length ≤ kk) : a = 1114112 := by
  subst hg hk ha
  rcases cov_fin hr with h1 | h1
  · exact h1.2
  · omega
theorem fin_len (hr : RiseG 0 xs) (hg : gp = gapsG xs) (hk : kk = (gapsP xs).length) (h : gp.length ≤ kk) : kk = gp.length := by
  subst hg hk
  rcases cov_fin hr with h1 | h1
  · exact h1.1.symm
  · omega
theorem fin_len1 (hr : RiseG 0 xs) (hg : gp = gapsG xs) (hk : kk = (gapsP xs).length) (h : kk < gp.length) : kk + 1 = gp.length := by
  subst hg hk
  rcases cov_fin hr with h1 | h1
  · omega
  · exact h1.1.symm
theorem fin_hi {g : Rg} (hg : gp = gapsG xs) (hk : kk = (gapsP xs).length) (h : gp[kk]? = some g) : g.2 + 1 = 1114112 := by
  subst hk
  rw [(cov_end hg h).2]; rfl
theorem fin_lo {g : Rg} (hg : gp = gapsG xs) (hk : kk = (gapsP xs).length) (ha : a = nextP xs) (h : gp[kk]? = some g) : g.1 = a := by
  subst hk ha
  exact (cov_end hg h).1
end
/-! ### one entry for each code point -/
/-- What is known of each code point asked for. -/
def pointI (m : List SpI) (look : List Int) (val : List Int) (has : List Bool) : Prop :=
  look.length = val.length ∧ look.length = has.length ∧ ∀ (k : Nat) (x v : Int) (h : Bool), look[k]? = some x → val[k]? = some v → has[k]? = some h → valG m x = if h = true then some v else none
/-- The same, while the entries below k are those of the new map. -/
def pointJ (m m2 : List SpI) (look : List Int) (val : List Int) (has : List Bool) (k : Nat) : Prop :=
  look.length = val.length ∧ look.length = has.length ∧ ∀ (j : Nat) (x v : Int) (h : Bool), look[j]? = some x → val[j]? = some v → has[j]? = some h → valG (if j < k then m2 else m) x = if h = true then some v else none
section
variable {m m2 : List SpI} {look val : List Int} {has : List Bool} {k : Nat} {x i lo hi : Int}
theorem point_zero (look : List Int) : pointI [] look (List.replicate look.length 0) (List.replicate look.length false) :=
  ⟨by simp, by simp, fun k x v h _ _ hh => by
    have := List.mem_of_getElem? hh
    simp at this; rw [this.2]; rfl⟩
theorem point_start (h : pointI m look val has) (m2 : List SpI) : pointJ m m2 look val has 0 := ⟨h.1, h.2.1, fun j x v b h1 h2 h3 => by rw [if_neg (by omega)]; exact h.2.2 j x v b h1 h2 h3⟩
theorem point_end (h : pointJ m m2 look val has k) (hk : look.length ≤ k) : pointI m2 look val has := ⟨h.1, h.2.1, fun j x v b h1 h2 h3 => by
  have := h.2.2 j x v b h1 h2 h3
  rw [if_pos (by have := (List.getElem?_eq_some_iff.1 h1).1; omega)] at this; exact this⟩
/-- What a step made of the map: in its range a value or none, else as before; or nothing at all. -/
def stepM (m m2 : List SpI) (e lo hi i : Int) (put : Bool) : Prop := if e = 0 then ∀ x, valG m2 x = if lo ≤ x ∧ x ≤ hi then (if put = true then some i else none) else valG m x else ∀ x, valG m2 x = valG m x
theorem point_hit {e : Int} {put : Bool} {v' : Int} {h' : Bool} (h : pointJ m m2 look val has k) (hs : stepM m m2 e lo hi i put) (he : e = 0) (hx : look[k]? = some x) (h1 : lo ≤ x) (h2 : x ≤ hi) (hv : v' = i) (hh : h' = put) : pointJ m m2 look (val.set k v') (has.set k h') (k + 1) := by
  subst hv hh
  refine ⟨by rw [List.length_set]; exact h.1, by rw [List.length_set]; exact h.2.1, fun j y v b hy hv hb => ?_⟩
  by_cases hj : j = k
  · subst hj
    rw [hx] at hy; cases hy
    rw [List.getElem?_set_self (by have := (List.getElem?_eq_some_iff.1 hx).1; have := h.1; omega)] at hv
    rw [List.getElem?_set_self (by have := (List.getElem?_eq_some_iff.1 hx).1; have := h.2.1; omega)] at hb
    cases hv; cases hb
    rw [if_pos (by omega)]
    unfold stepM at hs
    rw [if_pos he] at hs
    rw [hs x, if_pos ⟨h1, h2⟩]
  · rw [List.getElem?_set_ne (Ne.symm hj)] at hv hb
    have := h.2.2 j y v b hy hv hb
    by_cases hlt : j < k
    · rw [if_pos hlt] at this; rw [if_pos (by omega)]; exact this
    · rw [if_neg hlt] at this; rw [if_neg (by omega)]; exact this
theorem point_miss {e : Int} {put : Bool} (h : pointJ m m2 look val has k) (hs : stepM m m2 e lo hi i put) (hx : look[k]? = some x) (hn : e ≠ 0 ∨ x < lo ∨ hi < x) : pointJ m m2 look val has (k + 1) := by
  refine ⟨h.1, h.2.1, fun j y v b hy hv hb => ?_⟩
  have := h.2.2 j y v b hy hv hb
  by_cases hj : j = k
  · subst hj
    rw [hx] at hy; cases hy
    rw [if_neg (by omega)] at this
    rw [if_pos (by omega), ← this]
    unfold stepM at hs
    split at hs
    · next he => rw [hs x, if_neg (by omega)]
    · exact hs x
  · by_cases hlt : j < k
    · rw [if_pos hlt] at this; rw [if_pos (by omega)]; exact this
    · rw [if_neg hlt] at this; rw [if_neg (by omega)]; exact this
theorem point_miss0 {e : Int} {put : Bool} (h : pointJ m m2 look val has k) (hs : stepM m m2 e lo hi i put) (hn : e ≠ 0) : pointJ m m2 look val has (k + 1) := by
  refine ⟨h.1, h.2.1, fun j y v b hy hv hb => ?_⟩
  have := h.2.2 j y v b hy hv hb
  unfold stepM at hs
  rw [if_neg hn] at hs
  split
  · rw [hs y]
    split at this
    · rw [hs y] at this; exact this
    · exact this
  · rw [if_neg (by omega)] at this; exact this
theorem step_put (hr : RiseG 0 m) : stepM m (putF eqI m lo hi i) (putE m lo hi) lo hi i true := by
  unfold stepM
  split
  · next he => intro x; rw [putF_ok he, layG_val eqI_law hr (putE_ok he).1 x]; rfl
  · next he => intro x; rw [putE_no he]
theorem step_lay (hr : RiseG 0 m) : stepM m (layF eqI m lo hi i) (layE lo hi) lo hi i true := by
  unfold stepM
  cases hm : mayG lo hi with
  | true => rw [if_pos (layE_ok hm)]; intro x; rw [layF_val eqI_law hr hm]; rfl
  | false =>
    have : layE lo hi = 41 := by unfold layE; rw [if_pos hm]
    rw [this, if_neg (by decide)]; intro x; unfold layF; rw [if_pos hm]
theorem step_cut (hr : RiseG 0 m) : stepM m (cutF m lo hi) (layE lo hi) lo hi i false := by
  unfold stepM
  cases hm : mayG lo hi with
  | true =>
    have hb := mayG_b hm
    rw [if_pos (layE_ok hm)]; intro x; unfold cutF; rw [if_neg (by rw [hm]; decide)]
    have h := cut_val (lo := lo) (hi := hi) hb.2.1 x hr
    rw [h]; simp
  | false =>
    have : layE lo hi = 41 := by unfold layE; rw [if_pos hm]
    rw [this, if_neg (by decide)]; intro x; unfold cutF; rw [if_pos hm]
theorem at_val {z : Int} (hr : RiseG 0 m) (x : Int) : atG z m x = orZ z (valG m x) := by
  unfold atG
  by_cases h : inR x = true
  · rw [if_pos h]
  · rw [if_neg h]
    have : valG m x = none := by
      cases hv : valG m x with
      | none => rfl
      | some v =>
        exfalso
        unfold valG at hv
        rw [Option.map_eq_some_iff] at hv
        obtain ⟨s, hs, _⟩ := hv
        have h1 := List.mem_of_find?_eq_some hs
        have h2 := List.find?_some hs
        have h3 := hr.mem s h1
        unfold inS at h2
        have h4 := of_decide_eq_true h2
        simp [inR] at h
        omega
    rw [this]
end
end Go.FK
