/- Plain functions of chapter 9: mirrors. -/
import Derived.Test.YtjdcmeoiommglaaDoorPWordM
import Derived.Test.YtjdcmeoiommglaaDoorFKl
set_option linter.unusedVariables false
namespace Go.FK
open Go Go.RowKit
abbrev Mir := Int × Int × Int × Bool
def encMir (m : Mir) : List Value := [.int .i64 m.1, .int .i32 m.2.1, .int .i32 m.2.2.1, .bool m.2.2.2]
def zeroM : Mir := (0, 0, 0, false)
def bestT : List UInt8 := [91, 66, 69, 83, 84, 32, 70, 73, 84, 93]
/-! ### a line -/
def mscanF (no k : Int) (f : List (List UInt8)) (t : List UInt8) : Mir × Int :=
  if k = 2 then (zeroM, 33) else
  if k ≠ 1 ∨ f.length ≠ 2 then (zeroM, 60) else
  if (hexF (f.getD 0 [])).2 ≠ 0 ∨ (hexF (f.getD 1 [])).2 ≠ 0 then (zeroM, 40) else
  ((no, (hexF (f.getD 0 [])).1, (hexF (f.getD 1 [])).1, hpB t bestT), 0)
section
variable {no k : Int} {f : List (List UInt8)} {t a b : List UInt8}
theorem getD_at {l : List (List UInt8)} {i : Nat} {x : List UInt8} (h : l[i]? = some x) : l.getD i [] = x := by rw [List.getD_eq_getElem?_getD, h]; rfl
theorem ms_order (h : k = 2) : mscanF no k f t = (zeroM, 33) := by unfold mscanF; rw [if_pos h]
theorem ms_cells (h : k ≠ 2) (h2 : k ≠ 1 ∨ f.length ≠ 2) : mscanF no k f t = (zeroM, 60) := by unfold mscanF; rw [if_neg h, if_pos h2]
theorem ms_hex (h : k = 1) (h2 : f.length = 2) (ha : f[0]? = some a) (hb : f[1]? = some b) (h3 : (hexF a).2 ≠ 0 ∨ (hexF b).2 ≠ 0) : mscanF no k f t = (zeroM, 40) := by
  unfold mscanF; rw [if_neg (by omega), if_neg (by omega), getD_at ha, getD_at hb, if_pos h3]
theorem ms_ok (h : k = 1) (h2 : f.length = 2) (ha : f[0]? = some a) (hb : f[1]? = some b) (h3 : (hexF a).2 = 0) (h4 : (hexF b).2 = 0) : mscanF no k f t = ((no, (hexF a).1, (hexF b).1, hpB t bestT), 0) := by
  unfold mscanF; rw [if_neg (by omega), if_neg (by omega), getD_at ha, getD_at hb, if_neg (by omega)]
theorem ms_hexA (h : k = 1) (h2 : f.length = 2) (ha : f[0]? = some a) (h3 : (hexF a).2 ≠ 0) : mscanF no k f t = (zeroM, 40) := by
  obtain ⟨b, hb⟩ := get_some f 1 (by omega)
  exact ms_hex h h2 ha hb (.inl h3)
end
theorem mscan_err (no k : Int) (f : List (List UInt8)) (t : List UInt8) : 0 ≤ (mscanF no k f t).2 ∧ (mscanF no k f t).2 ≤ 60 := by
  unfold mscanF; repeat' split
  all_goals exact ⟨by simp, by simp⟩
/-! ### maps -/
def prs (l : List Mir) : List (Int × Int) := l.map fun m => (m.2.1, m.2.2.1)
theorem mget_nil (x : Int) : mget [] x = none := rfl
theorem mget_cons (p : Int × Int) (l : List (Int × Int)) (x : Int) : mget (p :: l) x = if x = p.1 then some p.2 else mget l x := by
  unfold mget
  rw [midx]
  by_cases h : x = p.1
  · rw [if_pos h, if_pos h]; rfl
  · rw [if_neg h, if_neg h]; cases midx l x <;> rfl
theorem mget_app (l m : List (Int × Int)) (x : Int) : mget (l ++ m) x = (mget l x).or (mget m x) := by
  induction l with
  | nil => rfl
  | cons p l ih =>
    rw [List.cons_append, mget_cons, mget_cons, ih]
    split <;> rfl
theorem mget_some {l : List (Int × Int)} {x y : Int} (h : mget l x = some y) : (x, y) ∈ l := by
  induction l with
  | nil => cases h
  | cons p l ih =>
    rw [mget_cons] at h
    split at h
    · rename_i e; cases h; subst e; exact List.mem_cons_self
    · exact List.mem_cons_of_mem _ (ih h)
theorem mget_none {l : List (Int × Int)} {x : Int} (h : mget l x = none) : ∀ p ∈ l, p.1 ≠ x := by
  induction l with
  | nil => intro p hp; cases hp
  | cons p l ih =>
    rw [mget_cons] at h
    split at h
    · cases h
    · rename_i e
      intro q hq
      rcases List.mem_cons.1 hq with rfl | hq
      · exact fun e2 => e e2.symm
      · exact ih h q hq
theorem mget_isSome {l : List (Int × Int)} {x : Int} : (mget l x).isSome = true ↔ x ∈ l.map (·.1) := by
  constructor
  · intro h
    obtain ⟨y, hy⟩ := Option.isSome_iff_exists.1 h
    exact List.mem_map.2 ⟨(x, y), mget_some hy, rfl⟩
  · intro h
    cases hq : mget l x with
    | some y => rfl
    | none =>
      obtain ⟨p, hp, e⟩ := List.mem_map.1 h
      exact absurd e (mget_none hq p hp)
theorem none_of {o : Option Int} (h : o.isSome = false) : o = none := by cases o <;> simp_all
/-! ### a list checked -/
def ptB (r : Int) : Bool := decide (0 ≤ r ∧ r ≤ 1114111)
theorem pt_yes {r : Int} (h : 0 ≤ r) (h2 : r ≤ 1114111) : ptB r = true := decide_eq_true ⟨h, h2⟩
theorem pt_no {r : Int} (h : r < 0 ∨ 1114111 < r) : ptB r = false := decide_eq_false (by omega)
def chkA : List Int → Nat → List Mir → Nat × Int
  | _, _, [] => (0, 0)
  | seen, i, m :: l => if ptB m.2.1 = false ∨ ptB m.2.2.1 = false then (i, 2) else if m.2.1 = m.2.2.1 then (i, 91) else if m.2.1 ∈ seen then (i, 92) else chkA (seen ++ [m.2.1]) (i + 1) l
def backB (all : List Mir) (m : Mir) : Bool := all.any fun x => decide (x.2.1 = m.2.2.1 ∧ x.2.2.1 = m.2.1)
def chkB (all : List Mir) : Nat → List Mir → Nat × Int
  | _, [] => (0, 0)
  | i, m :: l => if backB all m = true then chkB all (i + 1) l else (i, 90)
def mcheckF (l : List Mir) : Nat × Int := if (chkA [] 0 l).2 ≠ 0 then chkA [] 0 l else chkB l 0 l
def seenF (l : List Mir) (i : Nat) : List Int := (l.take i).map (·.2.1)
theorem seen_succ {l : List Mir} {i : Nat} {m : Mir} (h : l[i]? = some m) : seenF l (i + 1) = seenF l i ++ [m.2.1] := by
  unfold seenF; rw [take_at h, List.map_append]; rfl
theorem prs_succ {l : List Mir} {i : Nat} {m : Mir} (h : l[i]? = some m) : prs (l.take (i + 1)) = prs (l.take i) ++ [(m.2.1, m.2.2.1)] := by
  unfold prs; rw [take_at h, List.map_append]; rfl
theorem prs_seen (l : List Mir) (i : Nat) : (prs (l.take i)).map (·.1) = seenF l i := by unfold prs seenF; rw [List.map_map]; rfl
theorem drop_at {α : Type} {l : List α} {i : Nat} {x : α} (h : l[i]? = some x) : l.drop i = x :: l.drop (i + 1) := by
  obtain ⟨h1, rfl⟩ := List.getElem?_eq_some_iff.1 h
  exact List.drop_eq_getElem_cons h1
section
variable {l : List Mir} {i : Nat} {m : Mir}
def invA (l : List Mir) (i : Nat) : Prop := chkA (seenF l i) i (l.drop i) = chkA [] 0 l
theorem invA_zero (l : List Mir) : invA l 0 := rfl
theorem invA_arg (h : invA l i) (hm : l[i]? = some m) (hp : ptB m.2.1 = false ∨ ptB m.2.2.1 = false) : mcheckF l = (i, 2) := by
  unfold invA at h; rw [drop_at hm, chkA, if_pos hp] at h
  unfold mcheckF; rw [← h, if_pos (by simp)]
theorem invA_self (h : invA l i) (hm : l[i]? = some m) (h1 : ptB m.2.1 = true) (h2 : ptB m.2.2.1 = true) (he : m.2.1 = m.2.2.1) : mcheckF l = (i, 91) := by
  unfold invA at h; rw [drop_at hm, chkA, if_neg (by rw [h1, h2]; simp), if_pos he] at h
  unfold mcheckF; rw [← h, if_pos (by simp)]
theorem invA_again (h : invA l i) (hm : l[i]? = some m) (h1 : ptB m.2.1 = true) (h2 : ptB m.2.2.1 = true) (he : m.2.1 ≠ m.2.2.1) (hs : m.2.1 ∈ seenF l i) : mcheckF l = (i, 92) := by
  unfold invA at h; rw [drop_at hm, chkA, if_neg (by rw [h1, h2]; simp), if_neg he, if_pos hs] at h
  unfold mcheckF; rw [← h, if_pos (by simp)]
theorem invA_succ (h : invA l i) (hm : l[i]? = some m) (h1 : ptB m.2.1 = true) (h2 : ptB m.2.2.1 = true) (he : m.2.1 ≠ m.2.2.1) (hs : ¬ m.2.1 ∈ seenF l i) : invA l (i + 1) := by
  unfold invA at h ⊢; rw [drop_at hm, chkA, if_neg (by rw [h1, h2]; simp), if_neg he, if_neg hs] at h
  rw [seen_succ hm]; exact h
theorem invA_end (h : invA l i) (hi : l.length ≤ i) : (chkA [] 0 l).2 = 0 := by
  unfold invA at h; rw [List.drop_eq_nil_of_le hi] at h; rw [← h]; rfl
theorem was_seen (h : (mget (prs (l.take i)) m.2.1).isSome = true) : m.2.1 ∈ seenF l i := by rw [← prs_seen]; exact mget_isSome.1 h
theorem was_not (h : (mget (prs (l.take i)) m.2.1).isSome = false) : ¬ m.2.1 ∈ seenF l i := by
  rw [← prs_seen]; intro e; rw [mget_isSome.2 e] at h; cases h
def invB (l : List Mir) (i : Nat) : Prop := chkB l i (l.drop i) = chkB l 0 l
theorem invB_zero (l : List Mir) : invB l 0 := rfl
theorem invB_twist (hA : (chkA [] 0 l).2 = 0) (h : invB l i) (hm : l[i]? = some m) (hb : backB l m = false) : mcheckF l = (i, 90) := by
  unfold invB at h; rw [drop_at hm, chkB, if_neg (by rw [hb]; decide)] at h
  unfold mcheckF; rw [if_neg (by omega), ← h]
theorem invB_succ (h : invB l i) (hm : l[i]? = some m) (hb : backB l m = true) : invB l (i + 1) := by
  unfold invB at h ⊢; rw [drop_at hm, chkB, if_pos hb] at h; exact h
theorem invB_end (hA : (chkA [] 0 l).2 = 0) (h : invB l i) (hi : l.length ≤ i) : mcheckF l = (0, 0) := by
  unfold invB at h; rw [List.drop_eq_nil_of_le hi] at h
  unfold mcheckF; rw [if_neg (by omega), ← h]; rfl
end
/-- where no number is twice, the map leads back just where a mirror does -/
theorem chkA_nodup : ∀ (l : List Mir) (seen : List Int) (i : Nat), (chkA seen i l).2 = 0 → (l.map (·.2.1)).Nodup ∧ ∀ x ∈ l.map (·.2.1), x ∉ seen
  | [], seen, i, _ => ⟨List.nodup_nil, fun x hx => by cases hx⟩
  | m :: l, seen, i, h => by
    rw [chkA] at h
    split at h
    · simp at h
    · split at h
      · simp at h
      · split at h
        · simp at h
        · rename_i h3
          obtain ⟨n1, n2⟩ := chkA_nodup l (seen ++ [m.2.1]) (i + 1) h
          refine ⟨?_, fun x hx => ?_⟩
          · rw [List.map_cons, List.nodup_cons]
            exact ⟨fun e => n2 _ e (by simp), n1⟩
          · rw [List.map_cons] at hx
            rcases List.mem_cons.1 hx with rfl | hx
            · exact h3
            · exact fun e => n2 x hx (by simp [e])
theorem mget_nodup {l : List (Int × Int)} {x y : Int} (hn : (l.map (·.1)).Nodup) (h : (x, y) ∈ l) : mget l x = some y := by
  induction l with
  | nil => cases h
  | cons p l ih =>
    rw [List.map_cons, List.nodup_cons] at hn
    rw [mget_cons]
    rcases List.mem_cons.1 h with e | h
    · subst e; rw [if_pos rfl]
    · rw [if_neg, ih hn.2 h]
      intro e; exact hn.1 (List.mem_map.2 ⟨(x, y), h, e⟩)
theorem prs_nodup {l : List Mir} (hA : (chkA [] 0 l).2 = 0) : ((prs l).map (·.1)).Nodup := by
  have := (chkA_nodup l [] 0 hA).1
  unfold prs; rw [List.map_map]; exact this
theorem back_yes {l : List Mir} {m : Mir} (hA : (chkA [] 0 l).2 = 0) (h1 : (mget (prs l) m.2.2.1).isSome = true) (h2 : (mget (prs l) m.2.2.1).getD 0 = m.2.1) : backB l m = true := by
  obtain ⟨y, hy⟩ := Option.isSome_iff_exists.1 h1
  rw [hy] at h2
  obtain ⟨x, hx, e⟩ := List.mem_map.1 (mget_some hy)
  simp only [Prod.mk.injEq] at e
  simp at h2
  exact List.any_eq_true.2 ⟨x, hx, decide_eq_true ⟨e.1, by rw [e.2, h2]⟩⟩
theorem back_no {l : List Mir} {m : Mir} (hA : (chkA [] 0 l).2 = 0) (h : (mget (prs l) m.2.2.1).isSome = false ∨ (mget (prs l) m.2.2.1).getD 0 ≠ m.2.1) : backB l m = false := by
  cases hb : backB l m with
  | false => rfl
  | true =>
    obtain ⟨x, hx, e⟩ := List.any_eq_true.1 hb
    have e := of_decide_eq_true e
    have hz := mget_nodup (prs_nodup hA) (List.mem_map.2 ⟨x, hx, rfl⟩ : (x.2.1, x.2.2.1) ∈ prs l)
    rw [e.1, e.2] at hz
    rw [hz] at h
    rcases h with h | h
    · cases h
    · exact absurd rfl h
/-! ### the mirror of a number -/
def ofF (l : List Mir) (r : Int) : Int × Bool := match mget (prs l) r with
  | some x => (x, true)
  | none => (r, false)
theorem of_yes {l : List Mir} {M : List (Int × Int)} {r : Int} (hM : ∀ x, mget M x = mget (prs l) x) (h : (mget M r).isSome = true) : ofF l r = ((mget M r).getD 0, true) := by
  unfold ofF; rw [← hM]
  cases hq : mget M r with
  | some x => rfl
  | none => rw [hq] at h; cases h
theorem of_not {l : List Mir} {M : List (Int × Int)} {r : Int} (hM : ∀ x, mget M x = mget (prs l) x) (h : (mget M r).isSome = false) : ofF l r = (r, false) := by
  unfold ofF; rw [← hM, none_of h]
/-- the first of each: what the map holds -/
def firstP : List (Int × Int) → List (Int × Int) → List (Int × Int)
  | M, [] => M
  | M, p :: l => firstP (if (mget M p.1).isSome = true then M else M ++ [p]) l
def firstM (l : List Mir) : List (Int × Int) := firstP [] (prs l)
theorem firstP_app : ∀ (l m M : List (Int × Int)), firstP M (l ++ m) = firstP (firstP M l) m
  | [], m, M => rfl
  | p :: l, m, M => by rw [List.cons_append, firstP, firstP_app l m, firstP]
theorem firstP_get : ∀ (l M : List (Int × Int)) (x : Int), mget (firstP M l) x = (mget M x).or (mget l x)
  | [], M, x => by rw [firstP, mget_nil, Option.or_none]
  | p :: l, M, x => by
    rw [firstP, firstP_get l, mget_cons]
    by_cases hs : (mget M p.1).isSome = true
    · rw [if_pos hs]
      by_cases e : x = p.1
      · subst e
        obtain ⟨y, hy⟩ := Option.isSome_iff_exists.1 hs
        rw [hy]; rfl
      · rw [if_neg e]
    · rw [if_neg hs, mget_app, mget_cons, mget_nil]
      by_cases e : x = p.1
      · rw [if_pos e, if_pos e]
        cases mget M x <;> rfl
      · rw [if_neg e, if_neg e, Option.or_none]
theorem first_get (l : List Mir) (x : Int) : mget (firstM l) x = mget (prs l) x := by
  unfold firstM; rw [firstP_get]; rfl
theorem firstP_len : ∀ (l M : List (Int × Int)), (firstP M l).length ≤ M.length + l.length
  | [], M => by rw [firstP]; simp
  | p :: l, M => by
    rw [firstP]
    have h := firstP_len l (if (mget M p.1).isSome = true then M else M ++ [p])
    split at h <;> rename_i hs
    · rw [if_pos hs]; rw [List.length_cons]; omega
    · rw [if_neg hs]; rw [List.length_append, List.length_singleton] at h; rw [List.length_cons]; omega
theorem first_new {l : List Mir} {i : Nat} {m : Mir} (hm : l[i]? = some m) (hw : (mget (firstM (l.take i)) m.2.1).isSome = false) : firstM (l.take i) ++ [(m.2.1, m.2.2.1)] = firstM (l.take (i + 1)) := by
  have h := prs_succ hm
  unfold firstM at hw ⊢
  rw [h, firstP_app, firstP, firstP, if_neg (by rw [hw]; decide)]
theorem first_old {l : List Mir} {i : Nat} {m : Mir} (hm : l[i]? = some m) (hw : (mget (firstM (l.take i)) m.2.1).isSome = true) : firstM (l.take i) = firstM (l.take (i + 1)) := by
  have h := prs_succ hm
  unfold firstM at hw ⊢
  rw [h, firstP_app, firstP, firstP, if_pos hw]
theorem first_end {l : List Mir} {i : Nat} (hi : l.length ≤ i) : firstM (l.take i) = firstM l := by rw [List.take_of_length_le hi]
theorem ofM_yes {l : List Mir} {r : Int} (h : (mget (firstM l) r).isSome = true) : ofF l r = ((mget (firstM l) r).getD 0, true) := of_yes (first_get l) h
theorem ofM_not {l : List Mir} {r : Int} (h : (mget (firstM l) r).isSome = false) : ofF l r = (r, false) := of_not (first_get l) h
theorem ofM_eq (l : List Mir) (r : Int) : ofF l r = (if (mget (firstM l) r).isSome = true then (mget (firstM l) r).getD 0 else r, (mget (firstM l) r).isSome) := by
  cases h : (mget (firstM l) r).isSome with
  | true => rw [ofM_yes h, if_pos rfl]
  | false => rw [ofM_not h, if_neg (by decide)]
/-! ### a file -/
def mscL (x : LineD) : Mir × Int := mscanF x.1 x.2.1 x.2.2.2.1 x.2.2.2.2
def mgo : List Mir → List LineD → List Mir × Int × Int
  | acc, [] => (acc, 0, 0)
  | acc, x :: l => if x.2.1 = 0 ∨ x.2.1 = 3 then mgo acc l else if (mscL x).2 ≠ 0 then ([], x.1, (mscL x).2) else mgo (acc ++ [(mscL x).1]) l
def mreadF (s : List UInt8) : List Mir × Int × Int :=
  if (badL (toldF s)).2 ≠ 0 then ([], (badL (toldF s)).1, (badL (toldF s)).2) else
  if (mgo [] (linesF (toldF s))).2.2 ≠ 0 then ([], (mgo [] (linesF (toldF s))).2.1, (mgo [] (linesF (toldF s))).2.2) else
  if (mcheckF (mgo [] (linesF (toldF s))).1).2 ≠ 0 then ([], ((mgo [] (linesF (toldF s))).1.getD (mcheckF (mgo [] (linesF (toldF s))).1).1 zeroM).1, (mcheckF (mgo [] (linesF (toldF s))).1).2) else
  ((mgo [] (linesF (toldF s))).1, 0, 0)
theorem mr_bad {s : List UInt8} (h : (badL (toldF s)).2 ≠ 0) : mreadF s = ([], (badL (toldF s)).1, (badL (toldF s)).2) := by unfold mreadF; rw [if_pos h]
theorem mr_ok1 {s : List UInt8} (h : (mreadF s).2.2 = 0) : (badL (toldF s)).2 = 0 := by
  by_cases hb : (badL (toldF s)).2 ≠ 0
  · rw [mr_bad hb] at h; exact absurd h hb
  · omega
section
variable {s : List UInt8} {xs : List LineV} {k : Nat} {x : LineV} {acc : List Mir}
def goI (s : List UInt8) (xs : List LineV) (k : Nat) (acc : List Mir) : Prop := (badL (toldF s)).2 = 0 ∧ mgo acc ((xs.drop k).map stripL) = mgo [] (linesF (toldF s))
theorem go_zero (hb : (badL (toldF s)).2 = 0) (h : xs.map stripL = linesF (toldF s)) : goI s xs 0 [] := ⟨hb, by rw [List.drop_zero, h]⟩
theorem go_skip (h : goI s xs k acc) (hx : xs[k]? = some x) (hk : x.2.1 = 0 ∨ x.2.1 = 3) : goI s xs (k + 1) acc := by
  refine ⟨h.1, ?_⟩
  have h2 := h.2
  rw [drop_at hx, List.map_cons, mgo, if_pos (show (stripL x).2.1 = 0 ∨ (stripL x).2.1 = 3 from hk)] at h2; exact h2
theorem go_on (h : goI s xs k acc) (hx : xs[k]? = some x) (hk : ¬ (x.2.1 = 0 ∨ x.2.1 = 3)) (he : (mscanF x.1 x.2.1 x.fs x.2.2.2.2).2 = 0) : goI s xs (k + 1) (acc ++ [(mscanF x.1 x.2.1 x.fs x.2.2.2.2).1]) := by
  refine ⟨h.1, ?_⟩
  have h2 := h.2
  rw [drop_at hx, List.map_cons, mgo, if_neg (show ¬ ((stripL x).2.1 = 0 ∨ (stripL x).2.1 = 3) from hk), if_neg (by have : mscL (stripL x) = mscanF x.1 x.2.1 x.fs x.2.2.2.2 := rfl; rw [this]; omega)] at h2; exact h2
theorem go_bad (h : goI s xs k acc) (hx : xs[k]? = some x) (hk : ¬ (x.2.1 = 0 ∨ x.2.1 = 3)) (he : (mscanF x.1 x.2.1 x.fs x.2.2.2.2).2 ≠ 0) : mreadF s = ([], x.1, (mscanF x.1 x.2.1 x.fs x.2.2.2.2).2) := by
  have h2 := h.2
  rw [drop_at hx, List.map_cons, mgo, if_neg (show ¬ ((stripL x).2.1 = 0 ∨ (stripL x).2.1 = 3) from hk), if_pos (show (mscL (stripL x)).2 ≠ 0 from he)] at h2
  unfold mreadF
  rw [if_neg (by have := h.1; omega), ← h2, if_pos (show (mscL (stripL x)).2 ≠ 0 from he)]; rfl
theorem go_end (h : goI s xs k acc) (hk : xs.length ≤ k) : mgo [] (linesF (toldF s)) = (acc, 0, 0) := by
  have h2 := h.2
  rw [List.drop_eq_nil_of_le hk] at h2; rw [← h2]; rfl
theorem go_fine (h : goI s xs k acc) (hk : xs.length ≤ k) (hc : (mcheckF acc).2 = 0) : mreadF s = (acc, 0, 0) := by
  unfold mreadF
  rw [if_neg (by have := h.1; omega), go_end h hk, if_neg (by simp), if_neg (by show ¬ (mcheckF acc).2 ≠ 0; omega)]
theorem go_check {m : Mir} (h : goI s xs k acc) (hk : xs.length ≤ k) (hc : (mcheckF acc).2 ≠ 0) (hm : acc[(mcheckF acc).1]? = some m) : mreadF s = ([], m.1, (mcheckF acc).2) := by
  unfold mreadF
  rw [if_neg (by have := h.1; omega), go_end h hk, if_neg (by simp), if_pos hc]
  show ([], (acc.getD (mcheckF acc).1 zeroM).1, (mcheckF acc).2) = _
  rw [List.getD_eq_getElem?_getD, hm]; rfl
end
theorem chkA_lt : ∀ (l : List Mir) (seen : List Int) (i : Nat), (chkA seen i l).2 ≠ 0 → (chkA seen i l).1 < i + l.length
  | [], seen, i, h => absurd rfl h
  | m :: l, seen, i, h => by
    rw [chkA] at h ⊢
    rw [List.length_cons]
    split
    · show i < i + (l.length + 1); omega
    · split
      · show i < i + (l.length + 1); omega
      · split
        · show i < i + (l.length + 1); omega
        · rename_i a b c
          rw [if_neg a, if_neg b, if_neg c] at h
          have := chkA_lt l _ _ h; omega
theorem chkB_lt (all : List Mir) : ∀ (l : List Mir) (i : Nat), (chkB all i l).2 ≠ 0 → (chkB all i l).1 < i + l.length
  | [], i, h => absurd rfl h
  | m :: l, i, h => by
    rw [chkB] at h ⊢
    rw [List.length_cons]
    split
    · rename_i a
      rw [if_pos a] at h
      have := chkB_lt all l _ h; omega
    · show i < i + (l.length + 1); omega
theorem mcheck_lt {l : List Mir} (h : (mcheckF l).2 ≠ 0) : (mcheckF l).1 < l.length := by
  unfold mcheckF at h ⊢
  split
  · rename_i a; have := chkA_lt l [] 0 a; omega
  · rename_i a; rw [if_neg a] at h; have := chkB_lt l l 0 h; omega
theorem chkA_err : ∀ (l : List Mir) (seen : List Int) (i : Nat), 0 ≤ (chkA seen i l).2 ∧ (chkA seen i l).2 ≤ 92
  | [], seen, i => by simp [chkA]
  | m :: l, seen, i => by
    rw [chkA]; repeat' split
    all_goals first | exact chkA_err l _ _ | simp
theorem chkB_err (all : List Mir) : ∀ (l : List Mir) (i : Nat), 0 ≤ (chkB all i l).2 ∧ (chkB all i l).2 ≤ 92
  | [], i => by simp [chkB]
  | m :: l, i => by
    rw [chkB]; split
    · exact chkB_err all l _
    · simp
theorem mcheck_err (l : List Mir) : 0 ≤ (mcheckF l).2 ∧ (mcheckF l).2 ≤ 92 := by
  unfold mcheckF; split
  · exact chkA_err l [] 0
  · exact chkB_err l l 0
theorem mcheck_le (l : List Mir) : (mcheckF l).1 ≤ l.length := by
  by_cases h : (mcheckF l).2 = 0
  · unfold mcheckF at h ⊢
    split
    · rename_i a; rw [if_pos a] at h; exact absurd h a
    · rename_i a
      rw [if_neg a] at h
      have key : ∀ (m : List Mir) (i : Nat), (chkB l i m).2 = 0 → (chkB l i m).1 = 0 := by
        intro m
        induction m with
        | nil => intro i _; rfl
        | cons y m ih =>
          intro i hh
          rw [chkB] at hh ⊢
          split
          · rename_i b; rw [if_pos b] at hh; exact ih _ hh
          · rename_i b; rw [if_neg b] at hh; simp at hh
      rw [key l 0 h]; exact Nat.zero_le _
  · exact Nat.le_of_lt (mcheck_lt h)
/-! ### the reference's loops -/
section
variable {l : List Mir} {i k : Nat} {x y : Mir} {r : Int}
def noFr (l : List Mir) (i k : Nat) : Prop := ∀ (j : Nat) (y x : Mir), j < k → l[j]? = some y → l[i]? = some x → y.2.1 ≠ x.2.1
theorem noFr_zero (l : List Mir) (i : Nat) : noFr l i 0 := fun j _ _ h => by omega
theorem noFr_succ (h : noFr l i k) (hy : l[k]? = some y) (hx : l[i]? = some x) (e : y.2.1 ≠ x.2.1) : noFr l i (k + 1) := by
  intro j y' x' hj hy' hx'
  by_cases hjk : j = k
  · subst hjk; rw [hy] at hy'; rw [hx] at hx'; cases hy'; cases hx'; exact e
  · exact h j y' x' (by omega) hy' hx'
theorem mem_seen : x.2.1 ∈ seenF l i ↔ ∃ j y, j < i ∧ l[j]? = some y ∧ y.2.1 = x.2.1 := by
  unfold seenF
  constructor
  · intro h
    obtain ⟨y, hy, e⟩ := List.mem_map.1 h
    obtain ⟨j, hj⟩ := List.mem_iff_getElem?.1 hy
    rw [List.getElem?_take] at hj
    split at hj
    · exact ⟨j, y, by assumption, hj, e⟩
    · cases hj
  · rintro ⟨j, y, hj, hy, e⟩
    refine List.mem_map.2 ⟨y, List.mem_iff_getElem?.2 ⟨j, ?_⟩, e⟩
    rw [List.getElem?_take, if_pos hj]; exact hy
theorem seen_at (hx : l[i]? = some x) (hy : l[k]? = some y) (e : y.2.1 = x.2.1) (hk : k < i) : x.2.1 ∈ seenF l i := mem_seen.2 ⟨k, y, hk, hy, e⟩
theorem seen_none (h : noFr l i k) (hk : i ≤ k) (hx : l[i]? = some x) : ¬ x.2.1 ∈ seenF l i := fun e => by
  obtain ⟨j, y, hj, hy, e⟩ := mem_seen.1 e
  exact h j y x (by omega) hy hx e
def backP (l : List Mir) (i k : Nat) : Bool := (l.take k).any fun y => decide (y.2.1 = (l.getD i zeroM).2.2.1 ∧ y.2.2.1 = (l.getD i zeroM).2.1)
theorem backP_zero (l : List Mir) (i : Nat) : backP l i 0 = false := rfl
theorem getM_at (h : l[i]? = some x) : l.getD i zeroM = x := by rw [List.getD_eq_getElem?_getD, h]; rfl
theorem backP_succ (hy : l[k]? = some y) : backP l i (k + 1) = (backP l i k || decide (y.2.1 = (l.getD i zeroM).2.2.1 ∧ y.2.2.1 = (l.getD i zeroM).2.1)) := by
  unfold backP; rw [take_at hy, List.any_append]; simp
theorem backP_old (hy : l[k]? = some y) (h : true = backP l i k) : true = backP l i (k + 1) := by rw [backP_succ hy, ← h]; rfl
theorem backP_yes (hy : l[k]? = some y) (hx : l[i]? = some x) (h1 : y.2.1 = x.2.2.1) (h2 : y.2.2.1 = x.2.1) : true = backP l i (k + 1) := by
  rw [backP_succ hy, getM_at hx, decide_eq_true ⟨h1, h2⟩, Bool.or_true]
theorem backP_no (hy : l[k]? = some y) (hx : l[i]? = some x) (h : false = backP l i k) (hn : y.2.1 ≠ x.2.2.1 ∨ y.2.2.1 ≠ x.2.1) : false = backP l i (k + 1) := by
  rw [backP_succ hy, getM_at hx, ← h, Bool.false_or]
  exact (decide_eq_false (by rintro ⟨a, b⟩; rcases hn with q | q; exact q a; exact q b)).symm
theorem backP_end (hx : l[i]? = some x) (hk : l.length ≤ k) : backB l x = backP l i k := by
  unfold backP; rw [List.take_of_length_le hk, getM_at hx]; rfl
theorem notF {b c : Bool} (h : (!b) = true) (e : b = c) : false = c := by cases b <;> simp_all
theorem notT {b c : Bool} (h : (!b) = false) (e : b = c) : true = c := by cases b <;> simp_all
theorem twist2 (hA : (chkA [] 0 l).2 = 0) (h : invB l i) (hi : i < l.length) (hb : false = backP l i k) (hk : l.length ≤ k) : mcheckF l = (i, 90) := by
  obtain ⟨x, hx⟩ : ∃ x, l[i]? = some x := ⟨l[i], List.getElem?_eq_getElem hi⟩
  exact invB_twist hA h hx (by rw [backP_end hx hk]; exact hb.symm)
theorem invB_succ2 (h : invB l i) (hi : i < l.length) (hb : true = backP l i k) (hk : l.length ≤ k) : invB l (i + 1) := by
  obtain ⟨x, hx⟩ : ∃ x, l[i]? = some x := ⟨l[i], List.getElem?_eq_getElem hi⟩
  exact invB_succ h hx (by rw [backP_end hx hk]; exact hb.symm)
theorem of_here (h : mget (prs (l.take i)) r = none) (hx : l[i]? = some x) (e : x.2.1 = r) : ofF l r = (x.2.2.1, true) := by
  unfold ofF
  have h1 : l = l.take i ++ l.drop i := (List.take_append_drop i l).symm
  have h2 : prs l = prs (l.take i) ++ prs (l.drop i) := by unfold prs; rw [← List.map_append, ← h1]
  rw [h2, mget_app, h, drop_at hx]
  show (match (none : Option Int).or (mget ((x.2.1, x.2.2.1) :: prs (l.drop (i + 1))) r) with | some x => (x, true) | none => (r, false)) = _
  rw [mget_cons, if_pos e.symm]; rfl
theorem of_step (h : mget (prs (l.take i)) r = none) (hx : l[i]? = some x) (e : x.2.1 ≠ r) : mget (prs (l.take (i + 1))) r = none := by
  rw [prs_succ hx, mget_app, h, mget_cons, if_neg (fun q => e q.symm)]; rfl
theorem of_none (h : mget (prs (l.take i)) r = none) (hi : l.length ≤ i) : ofF l r = (r, false) := by
  rw [List.take_of_length_le hi] at h
  unfold ofF; rw [h]
end
section
variable {l : List Mir} {i : Nat} {m : Mir} {W : List (Int × Int)}
theorem prs_succW (hW : W = prs (l.take i)) (h : l[i]? = some m) : W ++ [(m.2.1, m.2.2.1)] = prs (l.take (i + 1)) := by rw [hW, prs_succ h]
theorem was_seenW (hW : W = prs (l.take i)) (h : (mget W m.2.1).isSome = true) : m.2.1 ∈ seenF l i := by subst hW; exact was_seen h
theorem was_notW (hW : W = prs (l.take i)) (h : (mget W m.2.1).isSome = false) : ¬ m.2.1 ∈ seenF l i := by subst hW; exact was_not h
theorem back_yesW (hA : (chkA [] 0 l).2 = 0) (hW : W = prs (l.take i)) (hi : l.length ≤ i) (h1 : (mget W m.2.2.1).isSome = true) (h2 : (mget W m.2.2.1).getD 0 = m.2.1) : backB l m = true := by
  rw [List.take_of_length_le hi] at hW; subst hW; exact back_yes hA h1 h2
theorem back_noW (hA : (chkA [] 0 l).2 = 0) (hW : W = prs (l.take i)) (hi : l.length ≤ i) (h : (mget W m.2.2.1).isSome = false ∨ (mget W m.2.2.1).getD 0 ≠ m.2.1) : backB l m = false := by
  rw [List.take_of_length_le hi] at hW; subst hW; exact back_no hA h
end
/-! ### lists of mirrors held against each other -/
def eqMs (a b : List Mir) : Bool := decide (a = b)
def bareM (m : Mir) : Int × Int × Bool := m.2
def eqBare (a b : List Mir) : Bool := decide (a.map bareM = b.map bareM)
theorem bare_step {a b : List Mir} {i : Nat} {x y : Mir} (h : (a.map bareM).take i = (b.map bareM).take i) (hx : a[i]? = some x) (hy : b[i]? = some y) (e : bareM x = bareM y) : (a.map bareM).take (i + 1) = (b.map bareM).take (i + 1) :=
  take_same h (by rw [List.getElem?_map, hx]; rfl) (by rw [List.getElem?_map, hy]; rfl) e
theorem bare_no {a b : List Mir} {i : Nat} {x y : Mir} (hx : a[i]? = some x) (hy : b[i]? = some y) (e : bareM x ≠ bareM y) : a.map bareM ≠ b.map bareM := fun h => by
  have := congrArg (·[i]?) h
  simp only [List.getElem?_map, hx, hy, Option.map_some, Option.some.injEq] at this
  exact e this
theorem bare_len {a b : List Mir} (h : a.length ≠ b.length) : a.map bareM ≠ b.map bareM := fun e => h (by simpa using congrArg List.length e)
theorem bare_all {a b : List Mir} {i : Nat} (h : (a.map bareM).take i = (b.map bareM).take i) (hl : a.length = b.length) (hi : a.length ≤ i) : a.map bareM = b.map bareM := by
  rw [List.take_of_length_le (by rw [List.length_map]; exact hi), List.take_of_length_le (by rw [List.length_map]; omega)] at h; exact h
end Go.FK
