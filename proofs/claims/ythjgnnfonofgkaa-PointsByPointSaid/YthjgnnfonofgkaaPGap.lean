/- PGap: what has no value: the gaps between stretches. My own text. -/
import Derived.Test.YthjgnnfonofgkaaPFlt
set_option linter.unusedVariables false
namespace Go.FK
section
variable {V : Type} {xs pre : List (SpG V)} {x : SpG V} {nx : Int}
/-- Where the stretches that have come go on. -/
def nextP (pre : List (SpG V)) : Int := pre.foldl (fun _ s => s.2.1 + 1) 0
def gapStep (g : List Rg × Int) (s : SpG V) : List Rg × Int := (if g.2 < s.1 then g.1 ++ [(g.2, s.1 - 1)] else g.1, s.2.1 + 1)
def gapsP (pre : List (SpG V)) : List Rg := (pre.foldl gapStep ([], 0)).1
def gapsG (xs : List (SpG V)) : List Rg := gapsP xs ++ if nextP xs ≤ 1114111 then [(nextP xs, 1114111)] else []
theorem next_snoc (pre : List (SpG V)) (x : SpG V) : nextP (pre ++ [x]) = x.2.1 + 1 := by unfold nextP; rw [List.foldl_append]; rfl
theorem step_next (pre : List (SpG V)) : (pre.foldl gapStep ([], 0)).2 = nextP pre := by
  have key : ∀ (l : List (SpG V)) (g : List Rg) (z : Int), (l.foldl gapStep (g, z)).2 = l.foldl (fun _ s => s.2.1 + 1) z := by
    intro l
    induction l with
    | nil => intro g z; rfl
    | cons s l ih => intro g z; exact ih _ _
  exact key pre [] 0
theorem gaps_snoc (pre : List (SpG V)) (x : SpG V) : gapsP (pre ++ [x]) = if nextP pre < x.1 then gapsP pre ++ [(nextP pre, x.1 - 1)] else gapsP pre := by
  unfold gapsP
  rw [List.foldl_append]
  simp only [List.foldl_cons, List.foldl_nil, gapStep, step_next]
theorem gaps_go (h : nx = nextP pre) (hlt : nx < x.1) : gapsP pre ++ [((nx, x.1 - 1) : Rg)] = gapsP (pre ++ [x]) := by rw [gaps_snoc, if_pos (by omega), h]
theorem gaps_no (h : nx = nextP pre) (hlt : x.1 ≤ nx) : gapsP pre = gapsP (pre ++ [x]) := by rw [gaps_snoc, if_neg (by omega)]
theorem gaps_mono (pre t : List (SpG V)) : gapsP pre <+: gapsP (pre ++ t) := by
  induction t generalizing pre with
  | nil => rw [List.append_nil]; exact List.prefix_refl _
  | cons s t ih =>
    have h1 := ih (pre ++ [s])
    rw [List.append_assoc] at h1
    refine List.IsPrefix.trans ?_ h1
    rw [gaps_snoc]
    split
    · exact List.prefix_append _ _
    · exact List.prefix_refl _
theorem gaps_pre (hr : RiseG 0 xs) (hp : pre ++ [x] <+: xs) (h : nx = nextP pre) (hlt : nx < x.1) : gapsP pre ++ [((nx, x.1 - 1) : Rg)] <+: gapsG xs := by
  rw [gaps_go h hlt]
  obtain ⟨t, rfl⟩ := hp
  exact (gaps_mono _ _).trans (List.prefix_append _ _)
theorem gaps_last (hr : RiseG 0 xs) (h : nx = nextP xs) (hlt : nx ≤ 1114111) : gapsP xs ++ [((nx, 1114111) : Rg)] <+: gapsG xs := by
  unfold gapsG; rw [if_pos (by omega), h]; exact List.prefix_refl _
theorem gaps_done (h : nx = nextP xs) (hlt : nx ≤ 1114111) : gapsP xs ++ [((nx, 1114111) : Rg)] = gapsG xs := by unfold gapsG; rw [if_pos (by omega), h]
theorem gaps_none (h : nx = nextP xs) (hlt : 1114111 < nx) : gapsP xs = gapsG xs := by unfold gapsG; rw [if_neg (by omega), List.append_nil]
theorem next_last (pre : List (SpG V)) : nextP pre = lastH pre + 1 := by
  rcases List.eq_nil_or_concat pre with rfl | ⟨A, s, rfl⟩
  · rfl
  · rw [List.concat_eq_append, next_snoc, last_snoc]
theorem next_le (hr : RiseG 0 xs) (hp : pre ++ [x] <+: xs) : 0 ≤ nextP pre ∧ nextP pre ≤ x.1 := by
  have h1 := last_lt hr hp
  rw [next_last]
  refine ⟨?_, by omega⟩
  rcases List.eq_nil_or_concat pre with rfl | ⟨A, s, rfl⟩
  · exact Int.le_refl _
  · have h2 := (rise_pre hr hp).mem s (by simp)
    rw [List.concat_eq_append, last_snoc]; omega
theorem next_bd (hr : RiseG 0 xs) : 0 ≤ nextP xs ∧ nextP xs ≤ 1114112 := by
  rcases List.eq_nil_or_concat xs with rfl | ⟨A, s, rfl⟩
  · exact ⟨Int.le_refl _, (show (0 : Int) ≤ 1114112 by decide)⟩
  · have h2 := hr.mem s (by simp)
    rw [List.concat_eq_append, next_snoc]; omega
end
end Go.FK
