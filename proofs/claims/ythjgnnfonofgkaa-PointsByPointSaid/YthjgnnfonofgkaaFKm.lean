/- FKm: calls that change a struct in memory and its row: what stays, what is new. My own text. -/
import Derived.Test.YthjgnnfonofgkaaFKk
namespace Go.FK
open Go Go.RowKit
/-- The struct's block, and its row's. -/
def Dm (b : Nat) (v : Value) (k : Nat) : Prop := k = b ∨ v.ownBlock = some k
theorem Ch.trans2 {D D' : Nat → Prop} {w A B : World} (h : Ch D w A) (k : Ch D' A B) (hd : ∀ i, D' i → w.heap.size ≤ i ∨ D i) : Ch D w B :=
  ⟨k.os.trans h.os, k.tape.trans h.tape, k.output.trans h.output, Nat.le_trans h.size k.size,
    fun i hi hn => (k.same i (Nat.lt_of_lt_of_le hi h.size) (fun e => (hd i e).elim (fun x => by omega) hn)).trans (h.same i hi hn)⟩
theorem dr_app {D : Nat → Prop} {W0 m : Nat} {v v' : Value} (how : v'.ownBlock = v.ownBlock ∨ v'.ownBlock = some m) (hm : W0 ≤ m) (h : ∀ g, v.ownBlock = some g → W0 ≤ g ∨ D g) : ∀ g, v'.ownBlock = some g → W0 ≤ g ∨ D g := by
  intro g hg
  rcases how with e | e
  · exact h g (by rw [← e]; exact hg)
  · rw [e] at hg; have := Option.some.inj hg; exact .inl (by omega)
theorem dr_nil {D : Nat → Prop} (W0 : Nat) : ∀ g, (Value.slice none 0 0).ownBlock = some g → W0 ≤ g ∨ D g := by simp [Value.ownBlock]
theorem dr_call {D : Nat → Prop} {w A : World} {q vs : Value} (hc : Ch D w A) (dm : ∀ g, q.ownBlock = some g → A.heap.size ≤ g ∨ vs.ownBlock = some g) (h : ∀ g, vs.ownBlock = some g → w.heap.size ≤ g ∨ D g) : ∀ g, q.ownBlock = some g → w.heap.size ≤ g ∨ D g :=
  fun g hg => (dm g hg).elim (fun x => .inl (Nat.le_trans hc.size x)) (fun x => h g x)
theorem dr_row {α : Type} {D : Nat → Prop} {w' : World} {W0 n E k : Nat} {enc : α → List Value} {v : Value} {xs : List α} (h : Row w' n E k enc v xs) (hn : W0 ≤ n) : ∀ g, v.ownBlock = some g → W0 ≤ g ∨ D g :=
  fun g hg => .inl (Nat.le_trans hn (World.ownsRow.lt h g hg).1)
section
variable {α : Type} {w w' : World} {B E k b : Nat} {enc : α → List Value} {v vm vm' : Value} {xs : List α}
theorem ap_mut (hr : Row w B E k enc v xs) (dm : ∀ g, vm'.ownBlock = some g → w.heap.size ≤ g ∨ Dm b vm g) (hnb : v.ownBlock ≠ some b) (hap : v.ownBlock = none ∨ v.ownBlock ≠ vm.ownBlock) : v.ownBlock = none ∨ v.ownBlock ≠ vm'.ownBlock := by
  rcases row_block hr with rfl | ⟨g, cap, cur, rfl, hh⟩
  · exact .inl rfl
  · right
    intro e
    have e1 : some g = vm'.ownBlock := e
    rcases dm g e1.symm with h | h | h
    · have := obj_lt hh; omega
    · exact hnb (congrArg some h)
    · rcases hap with hap | hap
      · cases hap
      · exact hap (show some g = _ from h.symm)
theorem nb_mut {o : Obj} {i : Nat} (ho : w.heap[i]? = some o) (dm : ∀ g, vm'.ownBlock = some g → w.heap.size ≤ g ∨ Dm b vm g) (hne : i ≠ b) (hnb : vm.ownBlock ≠ some i) : vm'.ownBlock ≠ some i := by
  intro e
  rcases dm i e with h | h | h
  · have := obj_lt ho; omega
  · exact hne h
  · exact hnb h
theorem Row.ch_mut (h : Row w B E k enc v xs) (hc : Ch (Dm b vm) w w') (h1 : v.ownBlock ≠ some b) (h2 : v.ownBlock = none ∨ v.ownBlock ≠ vm.ownBlock) : Row w' B E k enc v xs := by
  refine h.ch hc ?_
  intro g hg hd
  rcases hd with hd | hd
  · exact h1 (by rw [hg, hd])
  · rcases h2 with h2 | h2
    · rw [h2] at hg; cases hg
    · exact h2 (by rw [hg, hd])
theorem obj_ch_mut {i : Nat} {o : Obj} (h : w.heap[i]? = some o) (hc : Ch (Dm b vm) w w') (h1 : i ≠ b) (h2 : vm.ownBlock ≠ some i) : w'.heap[i]? = some o := by
  refine obj_ch h hc ?_
  intro hd
  rcases hd with hd | hd
  · exact h1 hd
  · exact h2 hd
/-- A row alone: written in place. -/
theorem Row.ch_row (h : Row w B E k enc v xs) (hc : Ch (fun i => vm.ownBlock = some i) w w') (h2 : v.ownBlock = none ∨ v.ownBlock ≠ vm.ownBlock) : Row w' B E k enc v xs := by
  refine h.ch hc ?_
  intro g hg hd
  rcases h2 with h2 | h2
  · rw [h2] at hg; cases hg
  · exact h2 (by rw [hg, hd])
theorem obj_ch_row {i : Nat} {o : Obj} (h : w.heap[i]? = some o) (hc : Ch (fun i => vm.ownBlock = some i) w w') (h2 : vm.ownBlock ≠ some i) : w'.heap[i]? = some o := obj_ch h hc h2
theorem ap_mutrow (hr : Row w B E k enc v xs) (dm : ∀ g, vm'.ownBlock = some g → w.heap.size ≤ g ∨ vm.ownBlock = some g) (hap : v.ownBlock = none ∨ v.ownBlock ≠ vm.ownBlock) : v.ownBlock = none ∨ v.ownBlock ≠ vm'.ownBlock := by
  rcases row_block hr with rfl | ⟨g, cap, cur, rfl, hh⟩
  · exact .inl rfl
  · right
    intro e
    have e1 : some g = vm'.ownBlock := e
    rcases dm g e1.symm with h | h
    · have := obj_lt hh; omega
    · rcases hap with hap | hap
      · cases hap
      · exact hap (show some g = _ from h.symm)
theorem nb_mutrow {o : Obj} {i : Nat} (ho : w.heap[i]? = some o) (dm : ∀ g, vm'.ownBlock = some g → w.heap.size ≤ g ∨ vm.ownBlock = some g) (hnb : vm.ownBlock ≠ some i) : vm'.ownBlock ≠ some i := by
  intro e
  rcases dm i e with h | h
  · have := obj_lt ho; omega
  · exact hnb h
theorem Ch.grown {D : Option Nat} (hc : Ch (fun i => D = some i) w w') : w.grownBy w' D := ⟨hc.os, hc.tape, hc.output, hc.size, fun i hi hne => hc.same i hi (fun e => hne (by simpa using e.symm))⟩
end
end Go.FK
